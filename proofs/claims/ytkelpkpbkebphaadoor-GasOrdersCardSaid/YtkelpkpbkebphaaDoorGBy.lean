/- One division of the five parts, place by place. -/
import Derived.Test.YtkelpkpbkebphaaDoorGLive2
namespace Go.Proofs.YtkelpkpbkebphaaDoor
open Go.RowKit Go.Shelf Go.Proofs
abbrev five (a : Int) : Obj := .cells #[.int .u64 a, .int .u64 0, .int .u64 0, .int .u64 0, .int .u64 0] 77
theorem drew_alloc (W : World) (o : Obj) (k : Nat) : (W.alloc o).drewN k = (W.drewN k).alloc o := rfl
set_option maxRecDepth 100000 in
set_option maxHeartbeats 1000000 in
theorem by_any (a d q : Int) (W : World)
    (h0 : (callT Tryd.prog noT (runC Tryd.prog noT 60) 55 #[.int .u64 0, .int .u64 0, .int .u64 d]).map (·.1) = some (.tuple #[.int .u64 0, .int .u64 0]))
    (h1 : (callT Tryd.prog noT (runC Tryd.prog noT 60) 55 #[.int .u64 0, .int .u64 a, .int .u64 d]).map (·.1) = some (.tuple #[.int .u64 q, .int .u64 0])) :
    Calls Tryd.prog 54 #[.int .u64 d, .pointer (some ⟨W.heap.size, 0, none⟩)] (W.alloc (five a)) fun e w' => e = .returned (.tuple #[]) ∧ ∃ k, w' = (W.drewN k).alloc (five q) := by
  obtain ⟨B, hB⟩ : ∃ B, B = W.heap.size := ⟨_, rfl⟩
  rw [← hB]
  have HBh := Lib.hid hB; clear hB
  go_enter Tryd.func54, Tryd.ntmps54
  go_wp2
  have H0 := Lib.hid (run_some h0)
  have H1 := Lib.hid (run_some h1)
  clear h0 h1
  go_loopw [3, 4] (fun r i wr => r = .int .u64 0 ∧ ∃ j : Int, -1 ≤ j ∧ j ≤ 4 ∧ i = .int .i64 j ∧ ∃ k, wr = (W.drewN k).alloc (five (if j = -1 then q else a))) (fun _ i _ => (intOf i + 1).toNat)
  case atStart => exact ⟨rfl, 4, by omega, by omega, rfl, 0, rfl⟩
  case round =>
    obtain ⟨rfl, j, hj1, hj2, rfl, k, rfl⟩ := hrel
    have hS : B = (W.drewN k).heap.size := HBh.out
    generalize hW : W.drewN k = W1 at *
    obtain rfl | rfl | rfl | rfl | rfl | rfl : j = -1 ∨ j = 0 ∨ j = 1 ∨ j = 2 ∨ j = 3 ∨ j = 4 := by omega
    · clear hj1 hj2
      go_wp2
      go_end0
      exact ⟨rfl, k, by rw [hW]⟩
    · clear hj1 hj2
      simp only [show (0 : Int) ≠ -1 by omega, if_false]
      go_wp2_with (go_at_call 55; refine (H1.out _).mono ?_; rintro e w8 ⟨rfl, k2, rfl⟩; rw [drew_alloc]; have hS2 : B = (W1.drewN k2).heap.size := hS; clear hS; have hW2 : W.drewN (k + k2) = W1.drewN k2 := (by rw [← hW]; simp); (generalize W1.drewN k2 = W2 at *))
      exact ⟨⟨_, _, _, _, _, _, _, _, _, _, _, _, _, _, _, _, _, ⟨rfl, -1, by omega, by omega, rfl, k + k2, by rw [hW2]; rfl⟩, by rw [hS2]⟩, by simp [intOf]⟩
    · clear hj1 hj2
      simp only [show (1 : Int) ≠ -1 by omega, if_false]
      go_wp2_with (go_at_call 55; refine (H0.out _).mono ?_; rintro e w8 ⟨rfl, k2, rfl⟩; rw [drew_alloc]; have hS2 : B = (W1.drewN k2).heap.size := hS; clear hS; have hW2 : W.drewN (k + k2) = W1.drewN k2 := (by rw [← hW]; simp); (generalize W1.drewN k2 = W2 at *))
      exact ⟨⟨_, _, _, _, _, _, _, _, _, _, _, _, _, _, _, _, _, ⟨rfl, 0, by omega, by omega, rfl, k + k2, by rw [hW2]; rfl⟩, by rw [hS2]⟩, by simp [intOf]⟩
    · clear hj1 hj2
      simp only [show (2 : Int) ≠ -1 by omega, if_false]
      go_wp2_with (go_at_call 55; refine (H0.out _).mono ?_; rintro e w8 ⟨rfl, k2, rfl⟩; rw [drew_alloc]; have hS2 : B = (W1.drewN k2).heap.size := hS; clear hS; have hW2 : W.drewN (k + k2) = W1.drewN k2 := (by rw [← hW]; simp); (generalize W1.drewN k2 = W2 at *))
      exact ⟨⟨_, _, _, _, _, _, _, _, _, _, _, _, _, _, _, _, _, ⟨rfl, 1, by omega, by omega, rfl, k + k2, by rw [hW2]; rfl⟩, by rw [hS2]⟩, by simp [intOf]⟩
    · clear hj1 hj2
      simp only [show (3 : Int) ≠ -1 by omega, if_false]
      go_wp2_with (go_at_call 55; refine (H0.out _).mono ?_; rintro e w8 ⟨rfl, k2, rfl⟩; rw [drew_alloc]; have hS2 : B = (W1.drewN k2).heap.size := hS; clear hS; have hW2 : W.drewN (k + k2) = W1.drewN k2 := (by rw [← hW]; simp); (generalize W1.drewN k2 = W2 at *))
      exact ⟨⟨_, _, _, _, _, _, _, _, _, _, _, _, _, _, _, _, _, ⟨rfl, 2, by omega, by omega, rfl, k + k2, by rw [hW2]; rfl⟩, by rw [hS2]⟩, by simp [intOf]⟩
    · clear hj1 hj2
      simp only [show (4 : Int) ≠ -1 by omega, if_false]
      go_wp2_with (go_at_call 55; refine (H0.out _).mono ?_; rintro e w8 ⟨rfl, k2, rfl⟩; rw [drew_alloc]; have hS2 : B = (W1.drewN k2).heap.size := hS; clear hS; have hW2 : W.drewN (k + k2) = W1.drewN k2 := (by rw [← hW]; simp); (generalize W1.drewN k2 = W2 at *))
      exact ⟨⟨_, _, _, _, _, _, _, _, _, _, _, _, _, _, _, _, _, ⟨rfl, 3, by omega, by omega, rfl, k + k2, by rw [hW2]; rfl⟩, by rw [hS2]⟩, by simp [intOf]⟩
end Go.Proofs.YtkelpkpbkebphaaDoor
