/- What the second form's bound gives: a slice of bytes that came in, its bytes and its length. -/
import Derived.Test.YtkelpkpbkebphaaDoorRows
import Derived.Test.YtkelpkpbkebphaaDoorLaid
import Derived.Test.YtkelpkpbkebphaaDoorRefO
import Derived.WalkKit
import Derived.ProofKit
import Derived.OpenShut
import Derived.ShutString
import Derived.ChangeOld
import Derived.Below
import Derived.Deep.DeepHandedRow
import Derived.Deep.DeepWitnessRowRef
namespace Go.Proofs.YtkelpkpbkebphaaDoor
open Go.ChangeShapes Go.WideShapes Go.ChangeAt Go.RowKit Go.Proofs

theorem bulk_one {H : Type} (d : DataW H) : 1 ≤ Rows.uptoBulk d := by
  cases d with
  | lit l => cases l <;> simp [Rows.uptoBulk]
  | nil => simp [Rows.uptoBulk]
  | ptr d => simp [Rows.uptoBulk]
  | slice elems spare => simp [Rows.uptoBulk]
  | agg parts => simp [Rows.uptoBulk]
  | iface t d => simp [Rows.uptoBulk]
  | map entries => simp [Rows.uptoBulk]
  | held h => simp [Rows.uptoBulk]
theorem bulk_length {H : Type} (l : List (DataW H)) : l.length ≤ Rows.uptoBulkAll l := by
  induction l with
  | nil => simp [Rows.uptoBulkAll]
  | cons x r ih => have := bulk_one x; simp only [Rows.uptoBulkAll, List.length_cons]; omega
theorem bulk_slice {H : Type} (elems spare : List (DataW H)) : elems.length + 1 ≤ Rows.uptoBulk (.slice elems spare) := by
  have h1 := bulk_length elems
  simp only [Rows.uptoBulk]
  omega
theorem bulk_bound {H : Type} {l : List (DataW H)} (hk : Rows.uptoSmall H l = true) : Rows.uptoBulkAll l ≤ 1048576 := by
  simpa [Rows.uptoSmall] using hk

theorem laidOut : laidOutB Tryd.prog = true := by kernel_rfl

/-- A slice of bytes that came in. -/
theorem open_bytes {H : Type} {enc : TypeId × Value → H} {W : World} {base : Nat} {spare : Nat → Bool} {a : Option Addr} {len cap : Nat} {d : DataW H} {p : List MemPlace} {held : Bool}
    (hsp : ∀ k, spare k = true)
    (h : ∃ fuel, DataW.trod enc Tryd.prog W base spare held fuel 22 (Value.slice a len cap).cells.toList = some (d, p)) : ∃ bs, Bytes W a len bs ∧ (a = none → cap = 0) ∧ len ≤ cap ∧ len + 1 ≤ Rows.uptoBulk d := by
  obtain ⟨fuel, hf⟩ := h
  rcases open_ints Tryd.underlying22 Tryd.underlying5 (by kernel_rfl) hf with ⟨hcs, hx⟩ | ⟨x, l, c, zs, hcs, _, hl, hm, hz, hx, hcell, hwz⟩
  · simp [Value.cells] at hcs
    obtain ⟨rfl, rfl, rfl⟩ := hcs
    cases hx
    exact ⟨[], ⟨rfl, fun k hk => by omega, fun i => by simp⟩, fun _ => rfl, Nat.le_refl _, by simp [Rows.uptoBulk]⟩
  · simp [Value.cells] at hcs
    obtain ⟨rfl, rfl, rfl⟩ := hcs
    cases hx
    have hzl : zs.length = cap := by simpa [hsp] using hz
    have hr : ∀ i, i < zs.length → 0 ≤ zs.getD i 0 ∧ zs.getD i 0 < 256 := by
      intro i hi
      have e : zs.getD i 0 = zs[i] := by simp [List.getD, hi]
      have hw := hwz _ (List.getElem_mem hi)
      rw [e]
      have := bounds_u8 hw; omega
    have hg : ∀ i, i < len → (zs.take len).getD i 0 = zs.getD i 0 := by
      intro i hi
      simp [List.getD, hi]
    refine ⟨zs.take len, ⟨by rw [List.length_take]; omega, ?_, ?_⟩, fun e => (Option.some_ne_none _ e).elim, hl, ?_⟩
    · intro k hk
      obtain ⟨b, off, spot⟩ := x
      have h0 := hcell 0 (by omega)
      have hspot : spot = none := by simpa [Addr.add] using World.cell?_spot h0
      subst hspot
      have hadd : (⟨b, off, none⟩ : Addr).add k = ⟨b, off + k, none⟩ := by unfold Addr.add; split <;> simp_all
      have hc := hcell k (by omega)
      rw [hadd] at hc
      exact ⟨b, off, rfl, World.block_lt_of_cell? W ⟨b, off + k, none⟩ hc, by rw [hg k hk]; exact hc⟩
    · intro i
      by_cases hi : i < len
      · rw [hg i hi]; exact hr i (by omega)
      · have : (zs.take len).getD i 0 = 0 := by simp [List.getD, List.getElem?_take, hi]
        rw [this]; omega
    · have := bulk_slice (lits (H := H) .u8 (zs.take len)) (lits .u8 (zs.drop len))
      have e : (lits (H := H) .u8 (zs.take len)).length = len := by simp [lits]; omega
      omega
end Go.Proofs.YtkelpkpbkebphaaDoor
