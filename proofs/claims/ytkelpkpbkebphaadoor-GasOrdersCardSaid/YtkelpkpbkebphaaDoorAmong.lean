/- Whether a name stands in a list of names, by the document. -/
import Derived.Laws.Strings2
import Derived.Test.YtkelpkpbkebphaaDoorGBase
namespace Go.Proofs.YtkelpkpbkebphaaDoor
open Go.RowKit Go.Shelf Go.Proofs

def amongG (name list : List UInt8) : Nat → Nat → Nat → Bool
  | 0, _, _ => false
  | n + 1, x, i =>
    if i ≤ list.length then
      if i = list.length ∨ list.getD i 0 = 32 then
        if (list.drop x).take (i - x) = name then true else amongG name list n (i + 1) (i + 1)
      else amongG name list n x (i + 1)
    else false

set_option maxRecDepth 100000 in
set_option maxHeartbeats 800000 in
theorem among_any (nm l : List UInt8) (w : World) (hl : l.length ≤ 1048576) :
    Calls Tryd.prog 38 #[.string ⟨nm.toArray⟩, .string ⟨l.toArray⟩] w fun e w' => e = .returned (.bool (amongG nm l (l.length + 2) 0 0)) ∧ w = w' := by
  have hN := ByteArray.toList_mk nm
  have hX := Lib.hid (fun a b => congrArg ByteArray.toList (ByteArray.extract_mk l a b))
  have hTS : (⟨l.toArray⟩ : ByteArray).size = l.length := by simp [ByteArray.size]
  have hTI : ∀ j, j < l.length → ∃ h : j < (⟨l.toArray⟩ : ByteArray).size, (⟨l.toArray⟩ : ByteArray)[j] = l.getD j 0 := by
    intro j hj
    refine ⟨by rw [hTS]; exact hj, ?_⟩
    simp [List.getD, hj]; rfl
  have HTI := Lib.hid hTI; clear hTI
  have HTS := Lib.hid hTS; clear hTS
  have HN := Lib.hid hN; clear hN
  generalize (⟨nm.toArray⟩ : ByteArray) = N at *
  generalize (⟨l.toArray⟩ : ByteArray) = T at *
  have hTS := HTS.out
  go_enter Tryd.func38, Tryd.ntmps38
  go_wp2
  go_loop [5, 6] (fun x i => ∃ (a j : Nat), a ≤ j ∧ j ≤ l.length + 1 ∧ x = .int .i64 a ∧ i = .int .i64 j ∧ amongG nm l (l.length + 2 - j) a j = amongG nm l (l.length + 2) 0 0) (fun _ i => l.length + 2 - (intOf i).toNat)
  case atStart => exact ⟨0, 0, by omega, by omega, rfl, rfl, rfl⟩
  case round =>
    obtain ⟨a, j, haj, hj, rfl, rfl, hA⟩ := hrel
    by_cases hlt : j ≤ l.length
    · obtain ⟨f, hf⟩ : ∃ f, l.length + 2 - j = f + 1 := ⟨l.length + 1 - j, by omega⟩
      rw [hf, amongG, if_pos hlt] at hA
      have HA := Lib.hid hA; clear hA
      have HF := Lib.hid hf; clear hf
      have hx := (hX.out a j).trans (ByteArray.toList_mk _)
      have HX := Lib.hid hx; clear hx
      have d1 : decide (j ≤ l.length) = true := by simp; omega
      by_cases he : j = l.length
      · have hd : ((j : Int) == (l.length : Int)) = true := by simp; omega
        have HC : Hid (j = l.length ∨ l.getD j 0 = 32) := Lib.hid (.inl he)
        clear he
        by_cases heq : (l.drop a).take (j - a) = nm
        · have hc : ((T.extract a j).toList == N.toList) = true := by rw [HX.out, HN.out, heq]; simp
          have HE := Lib.hid heq; clear heq
          go_wp2
          go_ret
          refine ⟨?_, rfl⟩
          rw [← HA.out, if_pos HC.out, if_pos HE.out]; rfl
        · have hc : ((T.extract a j).toList == N.toList) = false := by rw [HX.out, HN.out]; simpa using heq
          have HE := Lib.hid heq; clear heq
          go_wp2
          refine ⟨⟨j + 1, j + 1, by omega, by omega, by go_num, by go_num, ?_⟩, by simp [intOf]; omega⟩
          rw [← HA.out, if_pos HC.out, if_neg HE.out, show l.length + 2 - (j + 1) = f by have := HF.out; omega]
      · have hd : ((j : Int) == (l.length : Int)) = false := by simp; omega
        obtain ⟨h, hb⟩ := HTI.out j (by omega)
        by_cases hs : l.getD j 0 = 32
        · have hk : ((T[j].toNat : Int) == 32) = true := by rw [hb, hs]; rfl
          have HC : Hid (j = l.length ∨ l.getD j 0 = 32) := Lib.hid (.inr hs)
          clear hb hs
          by_cases heq : (l.drop a).take (j - a) = nm
          · have hc : ((T.extract a j).toList == N.toList) = true := by rw [HX.out, HN.out, heq]; simp
            have HE := Lib.hid heq; clear heq
            go_wp2
            go_ret
            refine ⟨?_, rfl⟩
            rw [← HA.out, if_pos HC.out, if_pos HE.out]; rfl
          · have hc : ((T.extract a j).toList == N.toList) = false := by rw [HX.out, HN.out]; simpa using heq
            have HE := Lib.hid heq; clear heq
            go_wp2
            refine ⟨⟨j + 1, j + 1, by omega, by omega, by go_num, by go_num, ?_⟩, by simp [intOf]; omega⟩
            rw [← HA.out, if_pos HC.out, if_neg HE.out, show l.length + 2 - (j + 1) = f by have := HF.out; omega]
        · have hk : ((T[j].toNat : Int) == 32) = false := by
            rw [beq_eq_false_iff_ne]; intro h0; apply hs; rw [← hb]; apply UInt8.toNat_inj.1; show _ = 32; omega
          have HC : Hid (¬ (j = l.length ∨ l.getD j 0 = 32)) := Lib.hid (by rintro (e | e) <;> contradiction)
          clear hb hs
          go_wp2
          refine ⟨⟨a, j + 1, by omega, by omega, by go_num, by go_num, ?_⟩, by simp [intOf]; omega⟩
          rw [← HA.out, if_neg HC.out, show l.length + 2 - (j + 1) = f by have := HF.out; omega]
    · have HA := Lib.hid hA; clear hA
      have d1 : decide (j ≤ l.length) = false := by simp; omega
      go_wp2
      go_ret
      refine ⟨?_, rfl⟩
      rw [← HA.out]
      obtain ⟨f, hf⟩ : ∃ f, l.length + 2 - j = f + 1 := ⟨l.length + 1 - j, by omega⟩
      rw [hf, amongG, if_neg hlt]; rfl
end Go.Proofs.YtkelpkpbkebphaaDoor
