/- The part of the base fee by which it moves, at the law's three numbers. -/
import Derived.Test.YtkelpkpbkebphaaDoorGBy
namespace Go.Proofs.YtkelpkpbkebphaaDoor
open Go.RowKit Go.Shelf Go.Proofs
abbrev fee (n : Int) : Value := .agg #[.int .u64 n, .int .u64 0, .int .u64 0, .int .u64 0]
abbrev feeB (n : Int) : Obj := .cells #[.int .u64 n, .int .u64 0, .int .u64 0, .int .u64 0] 65
theorem idx_0 (w : World) : (Instr.index 65 (fee 1000) (.int .i64 0)).run Tryd.prog w = .ok (.int .u64 1000) w := by kernel_rfl
theorem idx_1 (w : World) : (Instr.index 65 (fee 1000) (.int .i64 1)).run Tryd.prog w = .ok (.int .u64 0) w := by kernel_rfl
theorem idx_2 (w : World) : (Instr.index 65 (fee 1000) (.int .i64 2)).run Tryd.prog w = .ok (.int .u64 0) w := by kernel_rfl
theorem idx_3 (w : World) : (Instr.index 65 (fee 1000) (.int .i64 3)).run Tryd.prog w = .ok (.int .u64 0) w := by kernel_rfl
theorem addc_1 (w : World) : (callFunc 53 #[.int .u64 100000, .int .u64 0, .int .u64 0]).run Tryd.prog w = .ok (.value (.tuple #[.int .u64 100000, .int .u64 0])) w := by kernel_rfl
theorem addc_0 (w : World) : (callFunc 53 #[.int .u64 0, .int .u64 0, .int .u64 0]).run Tryd.prog w = .ok (.value (.tuple #[.int .u64 0, .int .u64 0])) w := by kernel_rfl
theorem arr_at (B : Nat) (w : World) : (Instr.arrayAt 65 (.slice (some ⟨B, 0, none⟩) 4 5)).run Tryd.prog w = .ok (.pointer (some ⟨B, 0, none⟩)) w := by kernel_rfl
theorem below_drew {B : Nat} {w w' : World} (h : Below B w w') (n : Nat) : Below B w (w'.drewN n) := ⟨h.os, h.tape, h.output, h.size, h.block⟩
theorem by_1 (W : World) (B : Nat) (hS : W.heap.size = B) : Calls Tryd.prog 54 #[.int .u64 100, .pointer (some ⟨B, 0, none⟩)] (W.alloc (five 100000)) fun e w' => e = .returned (.tuple #[]) ∧ ∃ k, w' = (W.drewN k).alloc (five 1000) := hS ▸ by_any 100000 100 1000 W div_1 div_2
theorem by_2 (W : World) (B : Nat) (hS : W.heap.size = B) : Calls Tryd.prog 54 #[.int .u64 8, .pointer (some ⟨B, 0, none⟩)] (W.alloc (five 1000)) fun e w' => e = .returned (.tuple #[]) ∧ ∃ k, w' = (W.drewN k).alloc (five 125) := hS ▸ by_any 1000 8 125 W div_3 div_4
set_option maxRecDepth 100000 in
set_option maxHeartbeats 1000000 in
theorem part_any (W : World) (b1 b2 : Nat) (h0 : W.cell? ⟨b1, 0, none⟩ = some (.int .u64 1000)) (h1 : W.cell? ⟨b1, 1, none⟩ = some (.int .u64 0)) (h2 : W.cell? ⟨b1, 2, none⟩ = some (.int .u64 0))
    (h3 : W.cell? ⟨b1, 3, none⟩ = some (.int .u64 0)) (h4 : W.cell? ⟨b2, 0, none⟩ = some (.int .u64 100)) (hb1 : b1 < W.heap.size) (hb2 : b2 < W.heap.size) :
    Calls Tryd.prog 51 #[.int .u64 100, .pointer (some ⟨b1, 0, none⟩), .pointer (some ⟨b2, 0, none⟩)] W fun e w' => e = .returned (fee 125) ∧ Below W.heap.size W w' := by
  have i0 := idx_0
  have i1 := idx_1
  have i2 := idx_2
  have i3 := idx_3
  have j1 := addc_1
  have j0 := addc_0
  have ja := arr_at
  go_enter Tryd.func51, Tryd.ntmps51
  go_wp2
  generalize hV : World.alloc W (feeB 0) = V
  have HB := Lib.hid (hV ▸ (Below.refl W.heap.size W).alloc (Nat.le_refl _) (feeB 0))
  have hv4 : V.cell? ⟨b2, 0, none⟩ = some (.int .u64 100) := (HB.out.cell (p := ⟨b2, 0, none⟩) hb2).trans h4
  have HR : Hid (V.heap[W.heap.size]? = some (feeB 0)) := Lib.hid (by rw [← hV]; exact heap_alloc_new ..)
  have HS : Hid (W.heap.size + 1 = V.heap.size) := Lib.hid (by rw [← hV]; simp)
  rw [HS.out]
  have HV := Lib.hid hV
  clear hV h0 h1 h2 h3 h4
  obtain ⟨B, hB⟩ : ∃ B, B = V.heap.size := ⟨_, rfl⟩
  rw [← hB]
  have HBh := Lib.hid hB; clear hB
  obtain ⟨R, hR⟩ : ∃ R, W.heap.size = R := ⟨_, rfl⟩
  rw [hR]
  have HRh := Lib.hid hR
  clear hR
  have hlt0 : b2 < B := by have := HBh.out; have := HS.out; omega
  go_loopw [6, 14] (fun r i wr => r = .int .u64 0 ∧ ∃ j : Int, 0 ≤ j ∧ j ≤ 4 ∧ i = .int .i64 j ∧ ∃ k, wr = (V.drewN k).alloc (five (if j = 0 then 0 else 100000))) (fun _ i _ => (4 - intOf i).toNat)
  case atStart => exact ⟨rfl, 0, by omega, by omega, rfl, 0, rfl⟩
  case round =>
    obtain ⟨rfl, j, hj1, hj2, rfl, k, rfl⟩ := hrel
    have hS : (V.drewN k).heap.size = B := HBh.out.symm
    generalize hW : V.drewN k = W1 at *
    obtain rfl | rfl | rfl | rfl | rfl : j = 4 ∨ j = 0 ∨ j = 1 ∨ j = 2 ∨ j = 3 := by omega
    · clear hj1 hj2
      simp only [show (4 : Int) ≠ 0 by omega, if_false]
      have hlt : b2 < W1.heap.size := by rw [hS]; exact hlt0
      have c2 := ((Below.refl W1.heap.size W1).alloc (Nat.le_refl _) (five 100000)).cell (p := ⟨b2, 0, none⟩) hlt
      rw [← hW] at c2
      rw [World.cell?_drewN, hv4] at c2
      rw [hW] at c2
      have HSh := Lib.hid hS
      go_wp2_with (go_at_call 54; have hq := hS; clear hS hq; refine (by_1 W1 B HSh.out).mono ?_; rintro e w8 ⟨rfl, k2, rfl⟩; have hS2 : (W1.drewN k2).heap.size = B := HSh.out; clear c2; have hW2 : V.drewN (k + k2) = W1.drewN k2 := (by rw [← hW]; simp); (generalize W1.drewN k2 = W2 at *))
      refine (by_2 W2 B hS2).mono ?_
      rintro e w8 ⟨rfl, k3, rfl⟩
      have hW3 : W2.drewN k3 = (W.drewN (k + k2 + k3)).alloc (feeB 0) := by rw [← hW2, ← HV.out]; simp [drew_alloc]
      rw [hW3]
      clear hS2 hW3 hW2
      have hRB : B = R + 1 := by rw [HBh.out, ← HS.out, HRh.out]
      have hS4 : (W.drewN (k + k2 + k3)).heap.size = R := HRh.out
      have HB4 : Hid (Below W.heap.size W (W.drewN (k + k2 + k3))) := Lib.hid (below_drew (Below.refl _ _) _)
      generalize W.drewN (k + k2 + k3) = W4 at *
      go_wp2
      refine bodyPost_ret (v := fee 125) (results_cell_row rfl _ _ R 65 _ (0, 0) _ rfl ?rr Tryd.underlying65 (by kernel_rfl) (by kernel_rfl)) rfl ?post
      case rr =>
        have e1 : (W4.alloc (feeB 125)).heap.size = R + 1 := by simp [hS4]
        exact (heap_alloc_old _ _ (by rw [e1]; omega)).trans (hS4 ▸ heap_alloc_new W4 (feeB 125))
      case post =>
        have e0 := HB4.out.size
        have e1 := (HB4.out.alloc e0 (feeB 125)).size
        exact ⟨rfl, (HB4.out.alloc e0 (feeB 125)).alloc e1 (five 125)⟩
    · clear hj1 hj2
      simp only [if_true]
      go_wp2_with (go_at_call 52; refine (run_some mul_1 _).mono ?_; rintro e w8 ⟨rfl, k2, rfl⟩; rw [drew_alloc]; have hS2 : (W1.drewN k2).heap.size = B := hS; clear hS; have hW2 : V.drewN (k + k2) = W1.drewN k2 := (by rw [← hW]; simp); (generalize W1.drewN k2 = W2 at *))
      exact ⟨⟨rfl, 1, by omega, by omega, rfl, k + k2, by rw [hW2]; rfl⟩, by simp [intOf]⟩
    · clear hj1 hj2
      simp only [show (1 : Int) ≠ 0 by omega, if_false]
      go_wp2_with (go_at_call 52; refine (run_some mul_0 _).mono ?_; rintro e w8 ⟨rfl, k2, rfl⟩; rw [drew_alloc]; have hS2 : (W1.drewN k2).heap.size = B := hS; clear hS; have hW2 : V.drewN (k + k2) = W1.drewN k2 := (by rw [← hW]; simp); (generalize W1.drewN k2 = W2 at *))
      exact ⟨⟨rfl, 2, by omega, by omega, rfl, k + k2, by rw [hW2]; rfl⟩, by simp [intOf]⟩
    · clear hj1 hj2
      simp only [show (2 : Int) ≠ 0 by omega, if_false]
      go_wp2_with (go_at_call 52; refine (run_some mul_0 _).mono ?_; rintro e w8 ⟨rfl, k2, rfl⟩; rw [drew_alloc]; have hS2 : (W1.drewN k2).heap.size = B := hS; clear hS; have hW2 : V.drewN (k + k2) = W1.drewN k2 := (by rw [← hW]; simp); (generalize W1.drewN k2 = W2 at *))
      exact ⟨⟨rfl, 3, by omega, by omega, rfl, k + k2, by rw [hW2]; rfl⟩, by simp [intOf]⟩
    · clear hj1 hj2
      simp only [show (3 : Int) ≠ 0 by omega, if_false]
      go_wp2_with (go_at_call 52; refine (run_some mul_0 _).mono ?_; rintro e w8 ⟨rfl, k2, rfl⟩; rw [drew_alloc]; have hS2 : (W1.drewN k2).heap.size = B := hS; clear hS; have hW2 : V.drewN (k + k2) = W1.drewN k2 := (by rw [← hW]; simp); (generalize W1.drewN k2 = W2 at *))
      exact ⟨⟨rfl, 4, by omega, by omega, rfl, k + k2, by rw [hW2]; rfl⟩, by simp [intOf]⟩
end Go.Proofs.YtkelpkpbkebphaaDoor
