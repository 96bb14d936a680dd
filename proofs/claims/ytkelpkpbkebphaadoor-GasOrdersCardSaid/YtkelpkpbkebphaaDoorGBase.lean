/- What an order costs at least, by the program. -/
import Derived.Test.YtkelpkpbkebphaaDoorOrders
namespace Go.Proofs.YtkelpkpbkebphaaDoor
open Go.RowKit Go.Shelf Go.Proofs

def gasB (op : Nat) : Nat :=
  if op = 91 then 1 else if 96 ≤ op ∧ op < 160 then 3 else if 160 ≤ op ∧ op ≤ 164 then 375
  else if op ∈ [48, 50, 51, 52, 54, 56, 58, 61, 65, 66, 67, 68, 69, 70, 72, 80, 88, 89, 90] then 2
  else if op ∈ [1, 3, 16, 17, 18, 19, 20, 21, 22, 23, 24, 25, 26, 27, 28, 29, 53, 55, 57, 62, 81, 82, 83] then 3
  else if op ∈ [2, 4, 5, 6, 7, 11, 71] then 5
  else if op ∈ [8, 9, 86] then 8
  else if op ∈ [87, 10] then 10
  else if op ∈ [64] then 20
  else if op ∈ [32] then 30
  else if op ∈ [255] then 5000
  else if op ∈ [240, 245] then 32000
  else 0

theorem gasB_push : ∀ op : Nat, op < 256 → (96 : Int) ≤ op → (op : Int) < 160 → 3 = gasB op := by decide +kernel
theorem gasB_log : ∀ op : Nat, op < 256 → (160 : Int) ≤ op → (op : Int) ≤ 164 → 375 = gasB op := by decide +kernel
theorem gasB_rest : ∀ op : Nat, op < 256 → ((op : Int) < 96 ∨ (164 : Int) < op) → (([91, 48, 50, 51, 52, 54, 56, 58, 61, 65, 66, 67, 68, 69, 70, 72, 80, 88, 89, 90, 1, 3, 16, 17, 18, 19, 20, 21, 22, 23, 24, 25, 26, 27, 28, 29, 53, 55, 57, 62, 81, 82, 83, 2, 4, 5, 6, 7, 11, 71, 8, 9, 86, 87, 10, 64, 32, 255, 240, 245] : List Int).all fun k => ((op : Int) == k) == false) = true → 0 = gasB op := by decide +kernel
theorem eq_case {op : Nat} {k : Int} (h : ((op : Int) == k) = true) (P : Nat → Prop) (hk : P k.toNat) : P op := by
  have : op = k.toNat := by have := eq_of_beq h; omega
  rw [this]; exact hk

set_option maxRecDepth 100000 in
set_option maxHeartbeats 2000000 in
theorem gasBase_any (op : Nat) (w : World) (hop : op < 256) (HT : Tabs w) :
    Calls Tryd.prog 25 #[.int .u8 op] w fun e w' => e = .returned (.tuple #[.int .u64 (if (ofL op).2.2.2 then gasB op else 0 : Nat), .bool (ofL op).2.2.2]) ∧ Below w.heap.size w w' := by
  have c16 := Lib.hid (is_any op w hop HT)
  clear HT
  obtain ⟨is, his⟩ : ∃ is, (ofL op).2.2.2 = is := ⟨_, rfl⟩
  rw [his] at c16 ⊢
  clear his
  go_enter Tryd.func25, Tryd.ntmps25
  go_wp2_with fail
  refine c16.out.mono ?_
  rintro e w1 ⟨rfl, hb1⟩
  cases is
  · go_wp2
    go_ret2
    exact ⟨rfl, hb1⟩
  · have HB := Lib.hid (show gasB op = gasB op from rfl)
    generalize gasB op = gb at HB ⊢
    go_wp2
    all_goals go_ret2
    all_goals refine ⟨?_, hb1⟩
    all_goals clear hb1 c16
    all_goals refine congrArg (fun (n : Nat) => Ending.returned (.tuple #[.int .u64 (n : Int), .bool true])) (?_ : _ = gasB op)
    all_goals first
      | exact gasB_push op hop (by assumption) (by assumption)
      | exact gasB_log op hop (by assumption) (by assumption)
      | (refine eq_case ‹((op : Int) == _) = true› (fun n => _ = gasB n) ?_; rfl)
      | (refine gasB_rest op hop (by first | exact .inl (by assumption) | exact .inr (by assumption)) ?_
         simp only [List.all_cons, List.all_nil, Bool.and_true, Bool.and_eq_true, beq_iff_eq]
         refine ⟨?_, ?_, ?_, ?_, ?_, ?_, ?_, ?_, ?_, ?_, ?_, ?_, ?_, ?_, ?_, ?_, ?_, ?_, ?_, ?_, ?_, ?_, ?_, ?_, ?_, ?_, ?_, ?_, ?_, ?_, ?_, ?_, ?_, ?_, ?_, ?_, ?_, ?_, ?_, ?_, ?_, ?_, ?_, ?_, ?_, ?_, ?_, ?_, ?_, ?_, ?_, ?_, ?_, ?_, ?_, ?_, ?_, ?_, ?_, ?_⟩ <;> assumption)
end Go.Proofs.YtkelpkpbkebphaaDoor
