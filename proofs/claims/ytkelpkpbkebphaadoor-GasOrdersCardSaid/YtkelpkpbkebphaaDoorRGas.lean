/- What an order costs at least, by the document. -/
import Derived.Test.YtkelpkpbkebphaaDoorAmong
import Derived.Test.YtkelpkpbkebphaaDoorRefO
namespace Go.Proofs.YtkelpkpbkebphaaDoor
open Go.RowKit Go.Shelf Go.Proofs

def namesG : List (List UInt8) := [
  [74, 85, 77, 80, 68, 69, 83, 84],
  [65, 68, 68, 82, 69, 83, 83, 32, 79, 82, 73, 71, 73, 78, 32, 67, 65, 76, 76, 69, 82, 32, 67, 65, 76, 76, 86, 65, 76, 85, 69, 32, 67, 65, 76, 76, 68, 65, 84, 65, 83, 73, 90, 69, 32, 67, 79, 68, 69, 83, 73, 90, 69, 32, 71, 65, 83, 80, 82, 73, 67, 69, 32, 82, 69, 84, 85, 82, 78, 68, 65, 84, 65, 83, 73, 90, 69, 32, 67, 79, 73, 78, 66, 65, 83, 69, 32, 84, 73, 77, 69, 83, 84, 65, 77, 80, 32, 78, 85, 77, 66, 69, 82, 32, 68, 73, 70, 70, 73, 67, 85, 76, 84, 89, 32, 71, 65, 83, 76, 73, 77, 73, 84, 32, 67, 72, 65, 73, 78, 73, 68, 32, 66, 65, 83, 69, 70, 69, 69, 32, 80, 79, 80, 32, 80, 67, 32, 77, 83, 73, 90, 69, 32, 71, 65, 83],
  [65, 68, 68, 32, 83, 85, 66, 32, 76, 84, 32, 71, 84, 32, 83, 76, 84, 32, 83, 71, 84, 32, 69, 81, 32, 73, 83, 90, 69, 82, 79, 32, 65, 78, 68, 32, 79, 82, 32, 88, 79, 82, 32, 78, 79, 84, 32, 66, 89, 84, 69, 32, 83, 72, 76, 32, 83, 72, 82, 32, 83, 65, 82, 32, 67, 65, 76, 76, 68, 65, 84, 65, 76, 79, 65, 68, 32, 67, 65, 76, 76, 68, 65, 84, 65, 67, 79, 80, 89, 32, 67, 79, 68, 69, 67, 79, 80, 89, 32, 82, 69, 84, 85, 82, 78, 68, 65, 84, 65, 67, 79, 80, 89, 32, 77, 76, 79, 65, 68, 32, 77, 83, 84, 79, 82, 69, 32, 77, 83, 84, 79, 82, 69, 56],
  [77, 85, 76, 32, 68, 73, 86, 32, 83, 68, 73, 86, 32, 77, 79, 68, 32, 83, 77, 79, 68, 32, 83, 73, 71, 78, 69, 88, 84, 69, 78, 68, 32, 83, 69, 76, 70, 66, 65, 76, 65, 78, 67, 69],
  [65, 68, 68, 77, 79, 68, 32, 77, 85, 76, 77, 79, 68, 32, 74, 85, 77, 80],
  [74, 85, 77, 80, 73, 32, 69, 88, 80],
  [66, 76, 79, 67, 75, 72, 65, 83, 72],
  [83, 72, 65, 51],
  [83, 69, 76, 70, 68, 69, 83, 84, 82, 85, 67, 84],
  [67, 82, 69, 65, 84, 69, 32, 67, 82, 69, 65, 84, 69, 50]]
def costsG : List Nat := [1, 2, 3, 5, 8, 10, 20, 30, 5000, 32000]
def refGo (nm : List UInt8) : Nat → Nat → Nat
  | 0, _ => 0
  | n + 1, i => if amongG nm (namesG.getD i []) ((namesG.getD i []).length + 2) 0 0 then costsG.getD i 0 else refGo nm n (i + 1)
def refGas (op : Nat) : Nat := if 96 ≤ op ∧ op < 160 then 3 else if 160 ≤ op ∧ op < 165 then 375 else refGo (ofL op).1 10 0
theorem gas_same : ∀ op, op < 256 → (ofL op).2.2.2 = true → refGas op = gasB op := by decide +kernel
theorem names_size : ∀ i, i < 10 → (namesG.getD i []).length ≤ 1048576 := by decide +kernel

theorem cell_new (w : World) (c : Array Value) (t : TypeId) (i : Nat) : (w.alloc (.cells c t)).cell? ⟨w.heap.size, i, none⟩ = c[i]? := by
  unfold World.cell?
  simp only [heap_alloc_new]
  rfl

noncomputable def costsA : Array Value := (costsG.map fun c => Value.int .u64 (c : Nat)).toArray
noncomputable def namesA : Array Value := (namesG.map fun l => Value.string ⟨l.toArray⟩).toArray
theorem names_cells (w : World) (j : Nat) (hj : j < 10) : ((w.alloc (.cells costsA 37)).alloc (.cells namesA 9)).cell? ⟨w.heap.size + 1, j, none⟩ = some (.string ⟨(namesG.getD j []).toArray⟩) := by
  have h := cell_new (w.alloc (.cells costsA 37)) namesA 9 j
  have e : (w.alloc (.cells costsA 37)).heap.size = w.heap.size + 1 := by simp
  rw [e] at h
  rw [h]
  have hl : j < namesG.length := hj
  simp [namesA, List.getD, hl]
theorem costs_cells (w : World) (j : Nat) (hj : j < 10) : ((w.alloc (.cells costsA 37)).alloc (.cells namesA 9)).cell? ⟨w.heap.size, j, none⟩ = some (.int .u64 (costsG.getD j 0 : Nat)) := by
  have h := cell_new w costsA 37 j
  have hb := (Below.alloc (Below.refl (w.alloc (.cells costsA 37)).heap.size (w.alloc (.cells costsA 37))) (Nat.le_refl _) (.cells namesA 9)).cell (p := ⟨w.heap.size, j, none⟩) (by simp)
  rw [hb, h]
  have hl : j < costsG.length := hj
  simp [costsA, List.getD, hl]

set_option maxRecDepth 100000 in
set_option maxHeartbeats 2000000 in
theorem refGas_any (op : Nat) (w : World) (hop : op < 256) :
    Calls Tryd.prog 26 #[.int .u8 op] w fun e w' => e = .returned (.tuple #[.int .u64 (if (ofL op).2.2.2 then refGas op else 0 : Nat), .bool (ofL op).2.2.2]) ∧ Below w.heap.size w w' := by
  have c15' := ref_any op w hop
  have hg := Lib.hid (show refGas op = if 96 ≤ op ∧ op < 160 then 3 else if 160 ≤ op ∧ op < 165 then 375 else refGo (ofL op).1 10 0 from rfl)
  generalize refGas op = gb at *
  generalize ofL op = q at *
  obtain ⟨nm, tk, gv, is⟩ := q
  dsimp only [refV] at c15' hg ⊢
  have c15 := Lib.hid c15'; clear c15'
  go_enter Tryd.func26, Tryd.ntmps26
  go_wp2_with fail
  refine c15.out.mono ?_
  rintro e w1 ⟨rfl, hb1⟩
  cases is
  · go_wp2
    go_ret2
    exact ⟨rfl, hb1⟩
  · by_cases h1 : 96 ≤ op ∧ op < 160
    · have d1 : decide (96 ≤ op) = true := by simp; omega
      have d2 : decide (op < 160) = true := by simp; omega
      go_wp2
      go_ret2
      exact ⟨by rw [hg.out, if_pos h1]; rfl, hb1⟩
    · by_cases h2 : 160 ≤ op ∧ op < 165
      · have d1 : decide (96 ≤ op) = true := by simp; omega
        have d2 : decide (op < 160) = false := by simp; omega
        have d3 : decide (160 ≤ op) = true := by simp; omega
        have d4 : decide (op < 165) = true := by simp; omega
        go_wp2
        go_ret2
        exact ⟨by rw [hg.out, if_neg h1, if_pos h2]; rfl, hb1⟩
      · have HG := Lib.hid (hg.out.trans ((if_neg h1).trans (if_neg h2)))
        clear hg
        have h3 : op < 96 ∨ 165 ≤ op := by omega
        clear h1 h2
        rcases h3 with h3 | h3
        · have d1 : decide (96 ≤ op) = false := by simp; omega
          have d2 : decide (160 ≤ op) = false := by simp; omega
          go_wp2
          generalize hW : World.alloc (World.alloc w1 _) _ = W2
          have hW' : (w1.alloc (.cells costsA 37)).alloc (.cells namesA 9) = W2 := hW
          have HNM := Lib.hid (fun j hj => hW' ▸ names_cells w1 j hj)
          have HCS := Lib.hid (fun j hj => hW' ▸ costs_cells w1 j hj)
          have HB : Hid (Below w.heap.size w W2) := Lib.hid (hW' ▸ (hb1.alloc hb1.size _).alloc (by simp; exact Nat.le_succ_of_le hb1.size) _)
          clear hW hW'
          go_loopw [10] (fun i wr => ∃ j : Nat, j ≤ 10 ∧ i = .int .i64 j ∧ wr = W2 ∧ refGo nm (10 - j) j = gb) (fun i _ => 10 - (intOf i).toNat)
          case atStart => exact ⟨0, by omega, rfl, rfl, HG.out.symm⟩
          case round =>
            obtain ⟨j, hj, rfl, rfl, hR⟩ := hrel
            by_cases hlt : j < 10
            · obtain ⟨f, hf⟩ : ∃ f, 10 - j = f + 1 := ⟨9 - j, by omega⟩
              rw [hf, refGo] at hR
              have hn := HNM.out j hlt
              have hc := HCS.out j hlt
              have ha := Lib.hid (fun W => among_any nm (namesG.getD j []) W (names_size j hlt))
              generalize namesG.getD j [] = l at *
              generalize costsG.getD j 0 = c at *
              cases hA : amongG nm l (l.length + 2) 0 0
              · rw [hA] at hR ha
                have HR := Lib.hid hR; have HF := Lib.hid hf; clear hR hf hA
                go_wp2_with (go_at_call 38; refine (ha.out _).mono ?_; rintro e w8 ⟨rfl, rfl⟩)
                refine ⟨⟨j + 1, by omega, by go_num, trivial, ?_⟩, by simp [intOf]; omega⟩
                rw [← HR.out, show 10 - (j + 1) = f by have := HF.out; omega]; rfl
              · rw [hA] at hR ha
                have HR := Lib.hid hR; clear hR hf hA
                go_wp2_with (go_at_call 38; refine (ha.out _).mono ?_; rintro e w8 ⟨rfl, rfl⟩)
                go_ret2
                exact ⟨by rw [← HR.out]; rfl, HB.out⟩
            · have h10 : j = 10 := by omega
              subst h10
              have HR := Lib.hid hR; clear hR
              go_wp2
              go_ret2
              exact ⟨by rw [← HR.out]; rfl, HB.out⟩
        · have d1 : decide (96 ≤ op) = true := by simp; omega
          have d2 : decide (op < 160) = false := by simp; omega
          have d3 : decide (160 ≤ op) = true := by simp; omega
          have d4 : decide (op < 165) = false := by simp; omega
          go_wp2
          generalize hW : World.alloc (World.alloc w1 _) _ = W2
          have hW' : (w1.alloc (.cells costsA 37)).alloc (.cells namesA 9) = W2 := hW
          have HNM := Lib.hid (fun j hj => hW' ▸ names_cells w1 j hj)
          have HCS := Lib.hid (fun j hj => hW' ▸ costs_cells w1 j hj)
          have HB : Hid (Below w.heap.size w W2) := Lib.hid (hW' ▸ (hb1.alloc hb1.size _).alloc (by simp; exact Nat.le_succ_of_le hb1.size) _)
          clear hW hW'
          go_loopw [10] (fun i wr => ∃ j : Nat, j ≤ 10 ∧ i = .int .i64 j ∧ wr = W2 ∧ refGo nm (10 - j) j = gb) (fun i _ => 10 - (intOf i).toNat)
          case atStart => exact ⟨0, by omega, rfl, rfl, HG.out.symm⟩
          case round =>
            obtain ⟨j, hj, rfl, rfl, hR⟩ := hrel
            by_cases hlt : j < 10
            · obtain ⟨f, hf⟩ : ∃ f, 10 - j = f + 1 := ⟨9 - j, by omega⟩
              rw [hf, refGo] at hR
              have hn := HNM.out j hlt
              have hc := HCS.out j hlt
              have ha := Lib.hid (fun W => among_any nm (namesG.getD j []) W (names_size j hlt))
              generalize namesG.getD j [] = l at *
              generalize costsG.getD j 0 = c at *
              cases hA : amongG nm l (l.length + 2) 0 0
              · rw [hA] at hR ha
                have HR := Lib.hid hR; have HF := Lib.hid hf; clear hR hf hA
                go_wp2_with (go_at_call 38; refine (ha.out _).mono ?_; rintro e w8 ⟨rfl, rfl⟩)
                refine ⟨⟨j + 1, by omega, by go_num, trivial, ?_⟩, by simp [intOf]; omega⟩
                rw [← HR.out, show 10 - (j + 1) = f by have := HF.out; omega]; rfl
              · rw [hA] at hR ha
                have HR := Lib.hid hR; clear hR hf hA
                go_wp2_with (go_at_call 38; refine (ha.out _).mono ?_; rintro e w8 ⟨rfl, rfl⟩)
                go_ret2
                exact ⟨by rw [← HR.out]; rfl, HB.out⟩
            · have h10 : j = 10 := by omega
              subst h10
              have HR := Lib.hid hR; clear hR
              go_wp2
              go_ret2
              exact ⟨by rw [← HR.out]; rfl, HB.out⟩
end Go.Proofs.YtkelpkpbkebphaaDoor
