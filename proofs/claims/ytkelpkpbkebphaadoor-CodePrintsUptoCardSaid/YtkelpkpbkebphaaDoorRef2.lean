/- What the document's answer tells of an order, whichever it is. -/
import Derived.Test.YtkelpkpbkebphaaDoorRef
namespace Go.Proofs.YtkelpkpbkebphaaDoor
open Go.RowKit Go.Shelf Go.Proofs

/-- The digits of a number below 100. -/
def digs (n : Nat) : List UInt8 := if n < 10 then [UInt8.ofNat (48 + n)] else [UInt8.ofNat (48 + n / 10), UInt8.ofNat (48 + n % 10)]
theorem itoa_digs (n : Nat) (h : n < 100) : Lib.itoa (n : Int) = digs n := by
  rw [Lib.itoa_nonneg]
  unfold digs
  by_cases h1 : n < 10
  · rw [if_pos h1, Lib.decDigits_one h1]
  · rw [if_neg h1, Lib.decDigits_two h1 h]

/-- Small numbers' texts, as the library gives them. -/
def tItoa : CallT := fun f args =>
  match f, args with
  | 29, ⟨[.int .i64 (.ofNat n)]⟩ => if n < 100 then some (.string ⟨(digs n).toArray⟩, 0) else none
  | _, _ => none
theorem tItoa_ok : tItoa.ok Tryd.prog := by
  intro f args v k h w
  unfold tItoa at h
  split at h
  · rename_i n
    split at h
    · rename_i hn
      cases h
      rw [← itoa_digs n hn]
      rw [Lib.itoa_nonneg]
      exact Tryd.strconv_Itoa_small n hn w
    · cases h
  · cases h
def ofC (op : Nat) : List UInt8 × Nat × Nat × Bool :=
  if op < 128 then ([80, 85, 83, 72] ++ digs (op - 95), 0, 1, true)
  else if op < 144 then ([68, 85, 80] ++ digs (op - 127), op - 127, op - 126, true)
  else if op < 160 then ([83, 87, 65, 80] ++ digs (op - 143), op - 142, op - 142, true)
  else ([76, 79, 71] ++ digs (op - 160), op - 158, 0, true)
theorem ofL_C (op : Nat) (h1 : 96 ≤ op) (h2 : op < 165) : ofL op = ofC op := by
  unfold ofL ofC
  by_cases a : op < 128
  · rw [if_pos (by omega), if_pos a, itoa_digs _ (by omega)]
  · rw [if_neg (by omega), if_neg a]
    by_cases b : op < 144
    · rw [if_pos (by omega), if_pos b, itoa_digs _ (by omega)]
    · rw [if_neg (by omega), if_neg b]
      by_cases c : op < 160
      · rw [if_pos (by omega), if_pos c, itoa_digs _ (by omega)]
      · rw [if_neg (by omega), if_neg c, if_pos (by omega), itoa_digs _ (by omega)]

def refV (r : List UInt8 × Nat × Nat × Bool) : Value := .tuple #[.string ⟨r.1.toArray⟩, .int .i64 r.2.1, .int .i64 r.2.2.1, .bool r.2.2.2]

theorem refc : ∀ (j : Nat) (_ : j < 69), callT Tryd.prog tItoa (runC Tryd.prog tItoa 60) 15 #[.int .u8 ((j + 96 : Nat) : Int)] = some (refV (ofC (j + 96)), 0)
  | 0, _ => by as_aux_lemma => kernel_rfl
  | 1, _ => by as_aux_lemma => kernel_rfl
  | 2, _ => by as_aux_lemma => kernel_rfl
  | 3, _ => by as_aux_lemma => kernel_rfl
  | 4, _ => by as_aux_lemma => kernel_rfl
  | 5, _ => by as_aux_lemma => kernel_rfl
  | 6, _ => by as_aux_lemma => kernel_rfl
  | 7, _ => by as_aux_lemma => kernel_rfl
  | 8, _ => by as_aux_lemma => kernel_rfl
  | 9, _ => by as_aux_lemma => kernel_rfl
  | 10, _ => by as_aux_lemma => kernel_rfl
  | 11, _ => by as_aux_lemma => kernel_rfl
  | 12, _ => by as_aux_lemma => kernel_rfl
  | 13, _ => by as_aux_lemma => kernel_rfl
  | 14, _ => by as_aux_lemma => kernel_rfl
  | 15, _ => by as_aux_lemma => kernel_rfl
  | 16, _ => by as_aux_lemma => kernel_rfl
  | 17, _ => by as_aux_lemma => kernel_rfl
  | 18, _ => by as_aux_lemma => kernel_rfl
  | 19, _ => by as_aux_lemma => kernel_rfl
  | 20, _ => by as_aux_lemma => kernel_rfl
  | 21, _ => by as_aux_lemma => kernel_rfl
  | 22, _ => by as_aux_lemma => kernel_rfl
  | 23, _ => by as_aux_lemma => kernel_rfl
  | 24, _ => by as_aux_lemma => kernel_rfl
  | 25, _ => by as_aux_lemma => kernel_rfl
  | 26, _ => by as_aux_lemma => kernel_rfl
  | 27, _ => by as_aux_lemma => kernel_rfl
  | 28, _ => by as_aux_lemma => kernel_rfl
  | 29, _ => by as_aux_lemma => kernel_rfl
  | 30, _ => by as_aux_lemma => kernel_rfl
  | 31, _ => by as_aux_lemma => kernel_rfl
  | 32, _ => by as_aux_lemma => kernel_rfl
  | 33, _ => by as_aux_lemma => kernel_rfl
  | 34, _ => by as_aux_lemma => kernel_rfl
  | 35, _ => by as_aux_lemma => kernel_rfl
  | 36, _ => by as_aux_lemma => kernel_rfl
  | 37, _ => by as_aux_lemma => kernel_rfl
  | 38, _ => by as_aux_lemma => kernel_rfl
  | 39, _ => by as_aux_lemma => kernel_rfl
  | 40, _ => by as_aux_lemma => kernel_rfl
  | 41, _ => by as_aux_lemma => kernel_rfl
  | 42, _ => by as_aux_lemma => kernel_rfl
  | 43, _ => by as_aux_lemma => kernel_rfl
  | 44, _ => by as_aux_lemma => kernel_rfl
  | 45, _ => by as_aux_lemma => kernel_rfl
  | 46, _ => by as_aux_lemma => kernel_rfl
  | 47, _ => by as_aux_lemma => kernel_rfl
  | 48, _ => by as_aux_lemma => kernel_rfl
  | 49, _ => by as_aux_lemma => kernel_rfl
  | 50, _ => by as_aux_lemma => kernel_rfl
  | 51, _ => by as_aux_lemma => kernel_rfl
  | 52, _ => by as_aux_lemma => kernel_rfl
  | 53, _ => by as_aux_lemma => kernel_rfl
  | 54, _ => by as_aux_lemma => kernel_rfl
  | 55, _ => by as_aux_lemma => kernel_rfl
  | 56, _ => by as_aux_lemma => kernel_rfl
  | 57, _ => by as_aux_lemma => kernel_rfl
  | 58, _ => by as_aux_lemma => kernel_rfl
  | 59, _ => by as_aux_lemma => kernel_rfl
  | 60, _ => by as_aux_lemma => kernel_rfl
  | 61, _ => by as_aux_lemma => kernel_rfl
  | 62, _ => by as_aux_lemma => kernel_rfl
  | 63, _ => by as_aux_lemma => kernel_rfl
  | 64, _ => by as_aux_lemma => kernel_rfl
  | 65, _ => by as_aux_lemma => kernel_rfl
  | 66, _ => by as_aux_lemma => kernel_rfl
  | 67, _ => by as_aux_lemma => kernel_rfl
  | 68, _ => by as_aux_lemma => kernel_rfl
  | n + 69, h => absurd h (by omega)

theorem ref_case {op : Nat} {v : Value} (h : callT Tryd.prog tItoa (runC Tryd.prog tItoa 60) 15 #[.int .u8 op] = some (v, 0)) (w : World) :
    Calls Tryd.prog 15 #[.int .u8 op] w fun e w' => e = .returned v ∧ Below w.heap.size w w' :=
  (run_calls tItoa_ok mixed 60 h w).mono fun _ _ h => ⟨h.1, by rw [h.2]; exact ⟨rfl, rfl, rfl, Nat.le_refl _, fun _ _ => rfl⟩⟩


theorem ref_any (op : Nat) (w : World) (hop : op < 256) :
    Calls Tryd.prog 15 #[.int .u8 op] w fun e w' => e = .returned (refV (ofL op)) ∧ Below w.heap.size w w' := by
  by_cases hno : op < 96 ∨ 165 ≤ op
  · have e : ofL op = findE op entsL := by
      have h := find_same ⟨op, hop⟩
      dsimp only at h
      rw [if_neg (by omega)] at h
      rw [h]; unfold ofL; rw [if_neg (by omega), if_neg (by omega), if_neg (by omega), if_neg (by omega)]
    rw [e]; exact ref_rows op w hop hno
  · have h := refc (op - 96) (by omega)
    rw [show op - 96 + 96 = op by omega] at h
    rw [ofL_C op (by omega) (by omega)]
    exact ref_case h w
end Go.Proofs.YtkelpkpbkebphaaDoor
