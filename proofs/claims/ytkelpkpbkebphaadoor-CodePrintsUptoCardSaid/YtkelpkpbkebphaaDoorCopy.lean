/- A slice of bytes put behind a row of the call's own. -/
import Derived.Laws.AppendOwnNone
import Derived.Test.YtkelpkpbkebphaaDoorSame
namespace Go.Proofs.YtkelpkpbkebphaaDoor
open Go.RowKit Go.Shelf Go.Proofs

theorem info5 : (Tryd.prog.info? 5).map (fun i => (i.zero, i.size, i.bytes)) = some (some (.int .u8 0), 1, 1) := by kernel_rfl
abbrev u8s (bs : List Int) : List Value := bs.map fun x => .int .u8 x

theorem wpList_append_bytes {ops : Array Oper} {rest : List Oper} {o : Oper} {a : Act} {Q : Exit → Act → World → Prop} {w : World} (hgd : o.guard = none) (s x : Operand)
    (ho : o.op = .call { callee := .builtin .append, args := #[s, x], argTypes := #[22, 22] }) (base : Nat) (v : Value) (n : Nat) (xs : List Value) (hs : a.eval s = v)
    (hown : w.ownsRow base 5 1 v n xs) (A : Option Addr) (m c : Nat) (bs : List Int) (hx : a.eval x = .slice A m c) (hr : Bytes w A m bs) (hnil : A = none → c = 0)
    (hroom : n + m ≤ 4194304) (hbase : base ≤ w.heap.size)
    (h : ∀ v' w', w'.ownsRow base 5 1 v' (n + m) (xs ++ u8s bs) → w.grownBy w' v.ownBlock → (v' = .slice none 0 0 ↔ v = .slice none 0 0 ∧ m = 0) → wpList Tryd.prog ops Q rest (a.put o.dst v') w') : wpList Tryd.prog ops Q (o :: rest) a w := by
  obtain ⟨i0, hi, hz0, hz1, hz2⟩ := info_parts info5
  have hlen := hr.len
  cases A with
  | none =>
    have hm : m = 0 := by
      by_cases h0 : 0 < m
      · obtain ⟨b, off, hA, _⟩ := hr.cell 0 h0; cases hA
      · omega
    subst hm
    have hc := hnil rfl
    subst hc
    have hbs : bs = [] := by cases bs with | nil => rfl | cons _ _ => simp at hlen
    subst hbs
    refine wpList_append_own_none hgd s x 22 ho base 5 i0 1 Tryd.underlying22 hi v n xs hs hown hx ?_
    exact h v w (by simpa using hown) (World.grownBy.refl w _) (by simp)
  | some ad =>
    refine wpList_append_own _ hgd s x 22 ho base 5 i0 (.int .u8 0) 1 1 Tryd.underlying22 hi hz0 hz1 hz2 rfl (by decide) v n xs hs hown ad m c (u8s bs) hx (by simp [hlen]) ?_ (by intro u hu; simp only [u8s, List.mem_map] at hu; obtain ⟨y, _, rfl⟩ := hu; rfl) (by unfold maxLen; omega) (by omega) hbase h
    intro j u hj
    have hjm : j < m := by
      have := (List.getElem?_eq_some_iff.1 hj).1
      simpa [hlen] using this
    obtain ⟨b, off, hA, _, hcell⟩ := hr.cell j hjm
    cases hA
    have hadd : (⟨b, off, none⟩ : Addr).add j = ⟨b, off + j, none⟩ := by
      unfold Addr.add; split <;> simp_all
    rw [hadd, hcell]
    have hb : bs.getD j 0 = bs[j]'(by omega) := by simp [List.getD, show j < bs.length by omega]
    rw [hb]
    have := hj
    simp only [u8s, List.getElem?_map] at this
    rw [List.getElem?_eq_getElem (by omega)] at this
    simpa using this

theorem owns_bytes_empty (w : World) : (w.alloc (.cells #[] 5)).ownsRow w.heap.size 5 1 (.slice (some ⟨w.heap.size, 0, none⟩) 0 0) 0 [] :=
  ⟨rfl, .inr ⟨w.heap.size, 0, #[], rfl, Nat.le_refl _, heap_alloc_new _ _, Nat.le_refl _, Nat.zero_le _, rfl, rfl⟩⟩

theorem owns_bytes {w : World} {base n : Nat} {v : Value} {bs : List Int} (h : w.ownsRow base 5 1 v n (u8s bs)) (hv : v ≠ .slice none 0 0) (hr : ∀ i, 0 ≤ bs.getD i 0 ∧ bs.getD i 0 < 256) :
    ∃ g c, v = .slice (some ⟨g, 0, none⟩) bs.length c ∧ bs.length ≤ c ∧ base ≤ g ∧ BytesAt w g 0 bs ∧ n = bs.length := by
  obtain ⟨hl, ⟨rfl, h0⟩ | ⟨g, cap, cur, rfl, hg, hblk, hn, _, hsz, htk⟩⟩ := h
  · exact absurd rfl hv
  · have hn' : n = bs.length := by simpa using hl.symm
    subst hn'
    refine ⟨g, cap, rfl, hn, hg, ⟨(Array.getElem?_eq_some_iff.1 hblk).1, fun i hi => ?_, hr⟩, rfl⟩
    unfold World.cell?
    simp only [hblk]
    have h0 := congrArg (fun x => x[i]?) htk
    rw [List.getElem?_take, if_pos (by omega)] at h0
    have h1 : (u8s bs)[i]? = some (.int .u8 (bs.getD i 0)) := by
      simp [u8s, List.getD, hi]
    rw [h1] at h0
    simpa using h0
end Go.Proofs.YtkelpkpbkebphaaDoor
