/- The small living call of the statements on codes. -/
import Derived.Test.YtkelpkpbkebphaaDoorJumps2
namespace Go.Proofs.YtkelpkpbkebphaaDoor
open Go.RowKit Go.Shelf Go.Proofs

theorem jmps_lives : jmps [96, 91, 91] 0 = [2] := by
  rw [jmps_no (by decide) (by decide)]
  rw [show 0 + 1 + pushN (([96, 91, 91] : List Int).getD 0 0) = 2 by decide]
  rw [jmps_yes (by decide) (by decide)]
  rw [show 2 + 1 + pushN (([96, 91, 91] : List Int).getD 2 0) = 3 by decide]
  rw [jmps_ge (by decide)]
theorem of96 : (ofL 96).1 = [80, 85, 83, 72, 49] := by
  unfold ofL; rw [if_pos (by omega)]
  show [80, 85, 83, 72] ++ Lib.itoa 1 = _
  have h : Lib.itoa 1 = [49] := by rw [show (1 : Int) = ((1 : Nat) : Int) from rfl, Lib.itoa_nonneg, Lib.decDigits_one (by omega)]; rfl
  rw [h]; rfl
theorem of241 : (ofL 241).2.1 = 7 := by decide +kernel

theorem lives_name (w : World) (HT : Tabs w) : Calls Tryd.prog 17 #[.int .u8 96] w fun e w' => e = .returned (.string ⟨#[80, 85, 83, 72, 49]⟩) ∧ Below w.heap.size w w' := by
  have := name_any 96 w (by omega) HT
  rw [of96] at this; exact this
theorem lives_takes (w : World) (HT : Tabs w) : Calls Tryd.prog 18 #[.int .u8 241] w fun e w' => e = .returned (.int .i64 7) ∧ Below w.heap.size w w' := by
  have := takes_any 241 w (by omega) HT
  rw [of241] at this; exact this
theorem lives_jumps (w : World) : Calls Tryd.prog 14 #[.slice (some ⟨w.heap.size, 0, none⟩) 3 3] (w.alloc (.cells #[.int .u8 96, .int .u8 91, .int .u8 91] 5)) fun e w' =>
    ∃ v, e = .returned v ∧ w'.ownsRow (w.heap.size + 1) 3 1 v 1 [.int .i64 2] ∧ Below (w.heap.size + 1) (w.alloc (.cells #[.int .u8 96, .int .u8 91, .int .u8 91] 5)) w' := by
  have := Jumps_any w.heap.size 0 3 [96, 91, 91] (by decide) (by decide) (w.alloc (.cells #[.int .u8 96, .int .u8 91, .int .u8 91] 5)) ⟨by simp, fun i hi => by
    rw [World.cell?_alloc_at _ _ _ _ rfl]
    match i, hi with
    | 0, _ => rfl
    | 1, _ => rfl
    | 2, _ => rfl
    | n + 3, h => exact absurd h (by simp), fun i => by
    match i with
    | 0 => decide
    | 1 => decide
    | 2 => decide
    | n + 3 => simp⟩
  rw [jmps_lives] at this
  simpa using this

set_option maxRecDepth 100000 in
theorem lives_any (w : World) (HT : Tabs w) : Calls Tryd.prog 11 #[] w fun e w' => e = .returned (.bool true) ∧ Below w.heap.size w w' := by
  have HT1 := Lib.hid HT; clear HT
  go_enter Tryd.func11, Tryd.ntmps11
  go_wp2_with fail
  refine (lives_jumps w).mono ?_
  rintro e w1 ⟨v, rfl, hown, hb1⟩
  obtain ⟨g, cap, rfl⟩ := ownsRow_succ hown
  obtain ⟨_, h | ⟨g', cap', cur, hv, hg, hblk, hcap, _, hsz, htk⟩⟩ := hown
  · cases h.1
  cases hv
  have hc0 : w1.cell? ⟨g, 0, none⟩ = some (.int .i64 2) := by
    unfold World.cell?
    simp only [hblk]
    have h0 := congrArg (fun l => l[0]?) htk
    rw [List.getElem?_take] at h0
    simpa using h0
  have hbw : Below w.heap.size w w1 := ((Below.refl _ w).alloc (Nat.le_refl _) _).trans (hb1.mono (by omega))
  clear hb1 hblk htk hsz
  have HT2 := Lib.hid (HT1.out.below hbw)
  go_wp2_with fail
  refine (lives_name w1 HT2.out).mono ?_
  rintro e w2 ⟨rfl, hb2⟩
  have HT3 := Lib.hid (HT2.out.below hb2)
  have hbw2 := hbw.trans (hb2.mono hbw.size)
  clear hb2 hbw
  go_wp2_with fail
  refine (lives_takes w2 HT3.out).mono ?_
  rintro e w3 ⟨rfl, hb3⟩
  have hbw3 := hbw2.trans (hb3.mono hbw2.size)
  clear hb3 hbw2
  go_wp2
  go_ret
  exact ⟨rfl, hbw3⟩
end Go.Proofs.YtkelpkpbkebphaaDoor
