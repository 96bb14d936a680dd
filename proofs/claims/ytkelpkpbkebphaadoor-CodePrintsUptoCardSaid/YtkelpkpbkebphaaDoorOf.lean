/- What the program tells of an order. -/
import Derived.Lib.AppendIntMem
import Derived.Lib.ItoaLen
import Derived.Laws.CopyOwn
import Derived.Lib.SmallJoins
import Derived.Lib.Hide
import Derived.Test.YtkelpkpbkebphaaDoorRowsOf
namespace Go.Proofs.YtkelpkpbkebphaaDoor
open Go.RowKit Go.Proofs

structure Tabs (w : World) : Prop where
  pow : Lib.TabIs Tryd.prog w "internal/strconv.uint64pow10" .u64 Lib.pow10Tab
  asc : Lib.TabIs Tryd.prog w "strings.asciiSpace" .u8 Lib.asciiSpaceTab

theorem gPow : Tryd.prog.globalNamed "internal/strconv.uint64pow10" = some 4 := by kernel_rfl
theorem gAsc : Tryd.prog.globalNamed "strings.asciiSpace" = some 0 := by kernel_rfl
theorem Tabs.below {w w' : World} (h : Tabs w) (hb : Below w.heap.size w w') : Tabs w' :=
  ⟨Joins.tab_stays gPow h.pow hb (Nat.le_refl _), Joins.tab_stays gAsc h.asc hb (Nat.le_refl _)⟩

/-- The rows of orders: first byte, takes, gives, names. -/
def rowsL : List (Nat × Nat × Nat × List UInt8) := [
  (0, 0, 0, [83, 84, 79, 80]),
  (1, 2, 1, [65, 68, 68, 32, 77, 85, 76, 32, 83, 85, 66, 32, 68, 73, 86, 32, 83, 68, 73, 86, 32, 77, 79, 68, 32, 83, 77, 79, 68]),
  (8, 3, 1, [65, 68, 68, 77, 79, 68, 32, 77, 85, 76, 77, 79, 68]),
  (10, 2, 1, [69, 88, 80, 32, 83, 73, 71, 78, 69, 88, 84, 69, 78, 68]),
  (16, 2, 1, [76, 84, 32, 71, 84, 32, 83, 76, 84, 32, 83, 71, 84, 32, 69, 81]),
  (21, 1, 1, [73, 83, 90, 69, 82, 79]),
  (22, 2, 1, [65, 78, 68, 32, 79, 82, 32, 88, 79, 82]),
  (25, 1, 1, [78, 79, 84]),
  (26, 2, 1, [66, 89, 84, 69, 32, 83, 72, 76, 32, 83, 72, 82, 32, 83, 65, 82]),
  (32, 2, 1, [83, 72, 65, 51]),
  (48, 0, 1, [65, 68, 68, 82, 69, 83, 83]),
  (49, 1, 1, [66, 65, 76, 65, 78, 67, 69]),
  (50, 0, 1, [79, 82, 73, 71, 73, 78, 32, 67, 65, 76, 76, 69, 82, 32, 67, 65, 76, 76, 86, 65, 76, 85, 69]),
  (53, 1, 1, [67, 65, 76, 76, 68, 65, 84, 65, 76, 79, 65, 68]),
  (54, 0, 1, [67, 65, 76, 76, 68, 65, 84, 65, 83, 73, 90, 69]),
  (55, 3, 0, [67, 65, 76, 76, 68, 65, 84, 65, 67, 79, 80, 89]),
  (56, 0, 1, [67, 79, 68, 69, 83, 73, 90, 69]),
  (57, 3, 0, [67, 79, 68, 69, 67, 79, 80, 89]),
  (58, 0, 1, [71, 65, 83, 80, 82, 73, 67, 69]),
  (59, 1, 1, [69, 88, 84, 67, 79, 68, 69, 83, 73, 90, 69]),
  (60, 4, 0, [69, 88, 84, 67, 79, 68, 69, 67, 79, 80, 89]),
  (61, 0, 1, [82, 69, 84, 85, 82, 78, 68, 65, 84, 65, 83, 73, 90, 69]),
  (62, 3, 0, [82, 69, 84, 85, 82, 78, 68, 65, 84, 65, 67, 79, 80, 89]),
  (63, 1, 1, [69, 88, 84, 67, 79, 68, 69, 72, 65, 83, 72, 32, 66, 76, 79, 67, 75, 72, 65, 83, 72]),
  (65, 0, 1, [67, 79, 73, 78, 66, 65, 83, 69, 32, 84, 73, 77, 69, 83, 84, 65, 77, 80, 32, 78, 85, 77, 66, 69, 82, 32, 68, 73, 70, 70, 73, 67, 85, 76, 84, 89, 32, 71, 65, 83, 76, 73, 77, 73, 84, 32, 67, 72, 65, 73, 78, 73, 68, 32, 83, 69, 76, 70, 66, 65, 76, 65, 78, 67, 69, 32, 66, 65, 83, 69, 70, 69, 69]),
  (80, 1, 0, [80, 79, 80]),
  (81, 1, 1, [77, 76, 79, 65, 68]),
  (82, 2, 0, [77, 83, 84, 79, 82, 69, 32, 77, 83, 84, 79, 82, 69, 56]),
  (84, 1, 1, [83, 76, 79, 65, 68]),
  (85, 2, 0, [83, 83, 84, 79, 82, 69]),
  (86, 1, 0, [74, 85, 77, 80]),
  (87, 2, 0, [74, 85, 77, 80, 73]),
  (88, 0, 1, [80, 67, 32, 77, 83, 73, 90, 69, 32, 71, 65, 83]),
  (91, 0, 0, [74, 85, 77, 80, 68, 69, 83, 84]),
  (240, 3, 1, [67, 82, 69, 65, 84, 69]),
  (241, 7, 1, [67, 65, 76, 76, 32, 67, 65, 76, 76, 67, 79, 68, 69]),
  (243, 2, 0, [82, 69, 84, 85, 82, 78]),
  (244, 6, 1, [68, 69, 76, 69, 71, 65, 84, 69, 67, 65, 76, 76]),
  (245, 4, 1, [67, 82, 69, 65, 84, 69, 50]),
  (250, 6, 1, [83, 84, 65, 84, 73, 67, 67, 65, 76, 76]),
  (253, 2, 0, [82, 69, 86, 69, 82, 84]),
  (255, 1, 0, [83, 69, 76, 70, 68, 69, 83, 84, 82, 85, 67, 84])]

def rowF (k : Nat) : Nat := (rowsL.getD k (0, 0, 0, [])).1
def rowT (k : Nat) : Nat := (rowsL.getD k (0, 0, 0, [])).2.1
def rowG (k : Nat) : Nat := (rowsL.getD k (0, 0, 0, [])).2.2.1
def rowN (k : Nat) : List UInt8 := (rowsL.getD k (0, 0, 0, [])).2.2.2

theorem index_at' : ∀ (k : Nat) (_ : k < 42) (w : World), (Instr.index 70 (.agg rowsV) (.int .i64 (k : Nat))).run Tryd.prog w = .ok (.agg #[.int .u8 (rowF k : Nat), .int .i64 (rowT k : Nat), .int .i64 (rowG k : Nat), .string ⟨(rowN k).toArray⟩]) w
  | 0, _, _ => by kernel_rfl
  | 1, _, _ => by kernel_rfl
  | 2, _, _ => by kernel_rfl
  | 3, _, _ => by kernel_rfl
  | 4, _, _ => by kernel_rfl
  | 5, _, _ => by kernel_rfl
  | 6, _, _ => by kernel_rfl
  | 7, _, _ => by kernel_rfl
  | 8, _, _ => by kernel_rfl
  | 9, _, _ => by kernel_rfl
  | 10, _, _ => by kernel_rfl
  | 11, _, _ => by kernel_rfl
  | 12, _, _ => by kernel_rfl
  | 13, _, _ => by kernel_rfl
  | 14, _, _ => by kernel_rfl
  | 15, _, _ => by kernel_rfl
  | 16, _, _ => by kernel_rfl
  | 17, _, _ => by kernel_rfl
  | 18, _, _ => by kernel_rfl
  | 19, _, _ => by kernel_rfl
  | 20, _, _ => by kernel_rfl
  | 21, _, _ => by kernel_rfl
  | 22, _, _ => by kernel_rfl
  | 23, _, _ => by kernel_rfl
  | 24, _, _ => by kernel_rfl
  | 25, _, _ => by kernel_rfl
  | 26, _, _ => by kernel_rfl
  | 27, _, _ => by kernel_rfl
  | 28, _, _ => by kernel_rfl
  | 29, _, _ => by kernel_rfl
  | 30, _, _ => by kernel_rfl
  | 31, _, _ => by kernel_rfl
  | 32, _, _ => by kernel_rfl
  | 33, _, _ => by kernel_rfl
  | 34, _, _ => by kernel_rfl
  | 35, _, _ => by kernel_rfl
  | 36, _, _ => by kernel_rfl
  | 37, _, _ => by kernel_rfl
  | 38, _, _ => by kernel_rfl
  | 39, _, _ => by kernel_rfl
  | 40, _, _ => by kernel_rfl
  | 41, _, _ => by kernel_rfl
  | n + 42, h, _ => absurd h (by omega)
theorem index_at (k : Nat) (hk : k < 42) (w : World) : (Instr.index 70 (.agg rowsV) (.int .i64 k)).run Tryd.prog w = .ok (.agg #[.int .u8 (rowF k : Nat), .int .i64 (rowT k : Nat), .int .i64 (rowG k : Nat), .string ⟨(rowN k).toArray⟩]) w := index_at' k hk w

theorem rows_ascii (k : Nat) (hk : k < 42) : (rowN k).length ≤ 100 ∧ ∀ (j : Nat) b, (rowN k)[j]? = some b → b.toNat < 128 := by
  have key : ∀ k : Fin 42, (rowN k.val).length ≤ 100 ∧ (rowN k.val).all (fun b => b.toNat < 128) = true := by decide +kernel
  refine ⟨(key ⟨k, hk⟩).1, fun j b hj => ?_⟩
  have := List.all_eq_true.1 (key ⟨k, hk⟩).2 b (List.mem_of_getElem? hj)
  simpa using this

theorem rows_first (k : Nat) (hk : k < 42) : rowF k < 256 := by
  have key : ∀ k : Fin 42, rowF k.val < 256 := by decide +kernel
  exact key ⟨k, hk⟩

def invalidL : List UInt8 × Nat × Nat × Bool := ([73, 78, 86, 65, 76, 73, 68], 0, 0, false)
def findRow (op : Nat) : Nat → Nat → List UInt8 × Nat × Nat × Bool
  | 0, _ => invalidL
  | n + 1, k => if op < rowF k then invalidL else
    match (Lib.fields (rowN k))[op - rowF k]? with
    | some s => (s, rowT k, rowG k, true)
    | none => findRow op n (k + 1)

/-- What an order is: its name, what it takes and gives, whether it is one. -/
def ofL (op : Nat) : List UInt8 × Nat × Nat × Bool :=
  if 96 ≤ op ∧ op ≤ 127 then ([80, 85, 83, 72] ++ Lib.itoa ((op - 95 : Nat) : Int), 0, 1, true)
  else if 128 ≤ op ∧ op ≤ 143 then ([68, 85, 80] ++ Lib.itoa ((op - 127 : Nat) : Int), op - 127, op - 126, true)
  else if 144 ≤ op ∧ op ≤ 159 then ([83, 87, 65, 80] ++ Lib.itoa ((op - 143 : Nat) : Int), op - 142, op - 142, true)
  else if 160 ≤ op ∧ op ≤ 164 then ([76, 79, 71] ++ Lib.itoa ((op - 160 : Nat) : Int), op - 158, 0, true)
  else findRow op 42 0
def ofV (r : List UInt8 × Nat × Nat × Bool) : Value := .agg #[.string ⟨r.1.toArray⟩, .int .i64 r.2.1, .int .i64 r.2.2.1, .bool r.2.2.2]

set_option maxRecDepth 100000 in
theorem counted_any (s : ByteArray) (n t g : Int) (w : World) (h0 : 0 ≤ n) (h1 : n ≤ 40) (hs : s.size ≤ 100) (HT : Tabs w) :
    Calls Tryd.prog 43 #[.string s, .int .i64 n, .int .i64 t, .int .i64 g] w fun e w' =>
      e = .returned (.agg #[.string (s ++ ⟨(Lib.itoa n).toArray⟩), .int .i64 t, .int .i64 g, .bool true]) ∧ Below w.heap.size w w' := by
  have HP := Lib.hid (HT.below ((Below.refl _ w).alloc (Nat.le_refl _) (.cells #[.string ByteArray.empty, .int .i64 0, .int .i64 0, .bool false] 43))).pow
  clear HT
  go_enter Tryd.func43, Tryd.ntmps43
  go_wp2_with fail
  refine (Tryd.strconv_Itoa n (by omega) (by omega) _ HP.out).mono ?_
  rintro e w1 ⟨rfl, k, os, hw1⟩
  have hb : Below (w.heap.size + 1) (w.alloc (.cells #[.string ByteArray.empty, .int .i64 0, .int .i64 0, .bool false] 43)) w1 := by
    rw [hw1]; exact Lib.below_grow _ _ (by simp) k os
  clear hw1
  have hblk : w1.heap[w.heap.size]? = some (.cells #[.string ByteArray.empty, .int .i64 0, .int .i64 0, .bool false] 43) := (hb.block _ (by omega)).trans (heap_alloc_new _ _)
  have hq := Lib.itoa_length_le n (by omega) (by omega)
  obtain ⟨q, hqe⟩ : ∃ q, Lib.itoa n = q := ⟨_, rfl⟩
  rw [hqe] at hq ⊢
  have HQ := Lib.hid hqe; clear hqe
  go_wp2_with (refine wpList_store_row rfl 43 _ _ rfl w.heap.size #[.string (s ++ ⟨q.toArray⟩), .int .i64 t, .int .i64 g, .bool true] rfl rfl 43 _ hblk (by kernel_rfl) (by kernel_rfl) (by kernel_rfl) ?_)
  exact bodyPost_ret (v := .agg #[.string (s ++ ⟨q.toArray⟩), .int .i64 t, .int .i64 g, .bool true]) (results_cell_row rfl _ _ w.heap.size 43 _ (0, 0) _ rfl (setRow_heap _ _ _ _ _ _ hblk) Tryd.underlying43 (by kernel_rfl) (by kernel_rfl)) rfl ⟨by rw [HQ.out], below_setRow (((Below.refl _ w).alloc (Nat.le_refl _) _).trans (hb.mono (Nat.le_succ _))) (Nat.le_refl _) _⟩

end Go.Proofs.YtkelpkpbkebphaaDoor
