/- Two lists of places that are one are told to be one; whether a number is in a list. -/
import Derived.Test.YtkelpkpbkebphaaDoorRefJ
namespace Go.Proofs.YtkelpkpbkebphaaDoor
open Go.RowKit Go.Shelf Go.Proofs

theorem Below.drewN' {B : Nat} {w w' : World} (h : Below B w w') (n : Nat) : Below B w (w'.drewN n) := ⟨h.os, h.tape, h.output, h.size, h.block⟩

set_option maxRecDepth 100000 in
set_option maxHeartbeats 400000 in
theorem same_true (A1 A2 : Option Addr) (c1 c2 b1 b2 : Nat) (l : List Nat) (w : World) (h1 : Ints w A1 b1 l) (h2 : Ints w A2 b2 l) (hl : l.length ≤ 9223372036854775806) :
    Calls Tryd.prog 13 #[.slice A1 l.length c1, .slice A2 l.length c2] w fun e w' => e = .returned (.bool true) ∧ Below w.heap.size w w' := by
  have hne : ((l.length : Int) != (l.length : Int)) = false := by simp
  go_enter Tryd.func13, Tryd.ntmps13
  go_wp2
  go_loopw [5] (fun i wr => ∃ j : Nat, j ≤ l.length ∧ i = .int .i64 j ∧ Below w.heap.size w wr) (fun i _ => l.length - (intOf i).toNat)
  case atStart => exact ⟨0, by omega, rfl, Below.refl _ _⟩
  case round =>
    obtain ⟨j, hj, rfl, hbw⟩ := hrel
    by_cases hlt : j < l.length
    · obtain ⟨g1, rfl, _, hg1, hc1⟩ := h1.cell j hlt
      obtain ⟨g2, rfl, _, hg2, hc2⟩ := h2.cell j hlt
      have hd1 := (hbw.cell (p := ⟨g1, j, none⟩) hg1).trans hc1
      have hd2 := (hbw.cell (p := ⟨g2, j, none⟩) hg2).trans hc2
      clear hc1 hc2
      generalize l.getD j 0 = k at *
      have hkk : ((k : Int) != (k : Int)) = false := by simp
      have hji : (j : Int) < l.length := by omega
      go_wp2_with fail
      go_quiet (fail)
      go_wp2
      refine ⟨⟨j + 1, by omega, by go_num, Below.drewN' hbw nq⟩, by simp [intOf]; omega⟩
    · go_wp2
      go_ret
      exact ⟨rfl, hbw⟩

set_option maxRecDepth 100000 in
set_option maxHeartbeats 400000 in
theorem has_any (A : Option Addr) (c b : Nat) (l : List Nat) (x : Int) (w : World) (h : Ints w A b l) (hl : l.length ≤ 9223372036854775806) :
    Calls Tryd.prog 22 #[.slice A l.length c, .int .i64 x] w fun e w' => e = .returned (.bool (l.any fun k => (k : Int) == x)) ∧ w = w' := by
  go_enter Tryd.func22, Tryd.ntmps22
  go_wp2
  go_loop [5] (fun i => ∃ j : Nat, j ≤ l.length ∧ i = .int .i64 j ∧ (l.drop j).any (fun k => (k : Int) == x) = l.any (fun k => (k : Int) == x)) (fun i => l.length - (intOf i).toNat)
  case atStart => exact ⟨0, by omega, rfl, rfl⟩
  case round =>
    obtain ⟨j, hj, rfl, hany⟩ := hrel
    by_cases hlt : j < l.length
    · obtain ⟨g, rfl, _, hg, hc⟩ := h.cell j hlt
      have hke : l.getD j 0 = l[j] := by simp [List.getD, hlt]
      rw [List.drop_eq_getElem_cons hlt, List.any_cons, ← hke] at hany
      clear hke
      generalize l.getD j 0 = k at *
      have HA := Lib.hid hany; clear hany
      by_cases hk : (k : Int) = x
      · have hkk : ((k : Int) == x) = true := by rw [hk]; simp
        clear hk
        go_wp2
        go_ret
        exact ⟨by rw [← HA.out, hkk]; rfl, rfl⟩
      · have hkk : ((k : Int) == x) = false := by simpa using hk
        clear hk
        go_wp2
        refine ⟨⟨j + 1, by omega, by go_num, ?_⟩, by simp [intOf]; omega⟩
        rw [← HA.out, hkk]; rfl
    · have hany' : l.any (fun k => (k : Int) == x) = false := by rw [← hany, List.drop_of_length_le (by omega)]; rfl
      have HA := Lib.hid hany'; clear hany hany'
      go_wp2
      go_ret
      exact ⟨congrArg (fun b => Ending.returned (Value.bool b)) HA.out.symm, rfl⟩
end Go.Proofs.YtkelpkpbkebphaaDoor
