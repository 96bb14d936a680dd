/- What the document's answer tells of an order: its table. -/
import Derived.Deep.QuietTactic
import Derived.BigQuiet
import Derived.Test.YtkelpkpbkebphaaDoorRunC
import Derived.Test.YtkelpkpbkebphaaDoorLives
namespace Go.Proofs.YtkelpkpbkebphaaDoor
open Go.RowKit Go.Shelf Go.Proofs

def entsL : List (UInt8 × UInt8 × UInt8 × UInt8 × List UInt8) := [
  (48, 48, 48, 48, [83, 84, 79, 80]),
  (48, 49, 50, 49, [65, 68, 68]),
  (48, 50, 50, 49, [77, 85, 76]),
  (48, 51, 50, 49, [83, 85, 66]),
  (48, 52, 50, 49, [68, 73, 86]),
  (48, 53, 50, 49, [83, 68, 73, 86]),
  (48, 54, 50, 49, [77, 79, 68]),
  (48, 55, 50, 49, [83, 77, 79, 68]),
  (48, 56, 51, 49, [65, 68, 68, 77, 79, 68]),
  (48, 57, 51, 49, [77, 85, 76, 77, 79, 68]),
  (48, 97, 50, 49, [69, 88, 80]),
  (48, 98, 50, 49, [83, 73, 71, 78, 69, 88, 84, 69, 78, 68]),
  (49, 48, 50, 49, [76, 84]),
  (49, 49, 50, 49, [71, 84]),
  (49, 50, 50, 49, [83, 76, 84]),
  (49, 51, 50, 49, [83, 71, 84]),
  (49, 52, 50, 49, [69, 81]),
  (49, 53, 49, 49, [73, 83, 90, 69, 82, 79]),
  (49, 54, 50, 49, [65, 78, 68]),
  (49, 55, 50, 49, [79, 82]),
  (49, 56, 50, 49, [88, 79, 82]),
  (49, 57, 49, 49, [78, 79, 84]),
  (49, 97, 50, 49, [66, 89, 84, 69]),
  (49, 98, 50, 49, [83, 72, 76]),
  (49, 99, 50, 49, [83, 72, 82]),
  (49, 100, 50, 49, [83, 65, 82]),
  (50, 48, 50, 49, [83, 72, 65, 51]),
  (51, 48, 48, 49, [65, 68, 68, 82, 69, 83, 83]),
  (51, 49, 49, 49, [66, 65, 76, 65, 78, 67, 69]),
  (51, 50, 48, 49, [79, 82, 73, 71, 73, 78]),
  (51, 51, 48, 49, [67, 65, 76, 76, 69, 82]),
  (51, 52, 48, 49, [67, 65, 76, 76, 86, 65, 76, 85, 69]),
  (51, 53, 49, 49, [67, 65, 76, 76, 68, 65, 84, 65, 76, 79, 65, 68]),
  (51, 54, 48, 49, [67, 65, 76, 76, 68, 65, 84, 65, 83, 73, 90, 69]),
  (51, 55, 51, 48, [67, 65, 76, 76, 68, 65, 84, 65, 67, 79, 80, 89]),
  (51, 56, 48, 49, [67, 79, 68, 69, 83, 73, 90, 69]),
  (51, 57, 51, 48, [67, 79, 68, 69, 67, 79, 80, 89]),
  (51, 97, 48, 49, [71, 65, 83, 80, 82, 73, 67, 69]),
  (51, 98, 49, 49, [69, 88, 84, 67, 79, 68, 69, 83, 73, 90, 69]),
  (51, 99, 52, 48, [69, 88, 84, 67, 79, 68, 69, 67, 79, 80, 89]),
  (51, 100, 48, 49, [82, 69, 84, 85, 82, 78, 68, 65, 84, 65, 83, 73, 90, 69]),
  (51, 101, 51, 48, [82, 69, 84, 85, 82, 78, 68, 65, 84, 65, 67, 79, 80, 89]),
  (51, 102, 49, 49, [69, 88, 84, 67, 79, 68, 69, 72, 65, 83, 72]),
  (52, 48, 49, 49, [66, 76, 79, 67, 75, 72, 65, 83, 72]),
  (52, 49, 48, 49, [67, 79, 73, 78, 66, 65, 83, 69]),
  (52, 50, 48, 49, [84, 73, 77, 69, 83, 84, 65, 77, 80]),
  (52, 51, 48, 49, [78, 85, 77, 66, 69, 82]),
  (52, 52, 48, 49, [68, 73, 70, 70, 73, 67, 85, 76, 84, 89]),
  (52, 53, 48, 49, [71, 65, 83, 76, 73, 77, 73, 84]),
  (52, 54, 48, 49, [67, 72, 65, 73, 78, 73, 68]),
  (52, 55, 48, 49, [83, 69, 76, 70, 66, 65, 76, 65, 78, 67, 69]),
  (52, 56, 48, 49, [66, 65, 83, 69, 70, 69, 69]),
  (53, 48, 49, 48, [80, 79, 80]),
  (53, 49, 49, 49, [77, 76, 79, 65, 68]),
  (53, 50, 50, 48, [77, 83, 84, 79, 82, 69]),
  (53, 51, 50, 48, [77, 83, 84, 79, 82, 69, 56]),
  (53, 52, 49, 49, [83, 76, 79, 65, 68]),
  (53, 53, 50, 48, [83, 83, 84, 79, 82, 69]),
  (53, 54, 49, 48, [74, 85, 77, 80]),
  (53, 55, 50, 48, [74, 85, 77, 80, 73]),
  (53, 56, 48, 49, [80, 67]),
  (53, 57, 48, 49, [77, 83, 73, 90, 69]),
  (53, 97, 48, 49, [71, 65, 83]),
  (53, 98, 48, 48, [74, 85, 77, 80, 68, 69, 83, 84]),
  (102, 48, 51, 49, [67, 82, 69, 65, 84, 69]),
  (102, 49, 55, 49, [67, 65, 76, 76]),
  (102, 50, 55, 49, [67, 65, 76, 76, 67, 79, 68, 69]),
  (102, 51, 50, 48, [82, 69, 84, 85, 82, 78]),
  (102, 52, 54, 49, [68, 69, 76, 69, 71, 65, 84, 69, 67, 65, 76, 76]),
  (102, 53, 52, 49, [67, 82, 69, 65, 84, 69, 50]),
  (102, 97, 54, 49, [83, 84, 65, 84, 73, 67, 67, 65, 76, 76]),
  (102, 100, 50, 48, [82, 69, 86, 69, 82, 84]),
  (102, 102, 49, 48, [83, 69, 76, 70, 68, 69, 83, 84, 82, 85, 67, 84])]

abbrev Ent := UInt8 × UInt8 × UInt8 × UInt8 × List UInt8
def Ent.enc (e : Ent) : List UInt8 := [e.1, e.2.1, 32, e.2.2.1, e.2.2.2.1, 32] ++ e.2.2.2.2 ++ [124]
def encAll : List Ent → List UInt8
  | [] => []
  | e :: r => Ent.enc e ++ encAll r
def tableV : ByteArray := ⟨(encAll entsL).toArray⟩

theorem mixed : Tryd.prog.follows .mixedOrders = true := by kernel_rfl
theorem table_run : callT Tryd.prog noT (runC Tryd.prog noT 20) 30 #[] = some (.string tableV, 0) := by kernel_rfl
theorem table_any (w : World) : Calls Tryd.prog 30 #[] w fun e w' => e = .returned (.string tableV) ∧ w = w' :=
  (run_calls (noT_ok _) mixed 20 table_run w).mono fun _ _ h => ⟨h.1, h.2.symm⟩

/-- A hexadecimal digit. -/
def hexD (n : Nat) : UInt8 := if n < 10 then UInt8.ofNat (48 + n) else UInt8.ofNat (87 + n)
def hexV : ByteArray := ⟨#[48, 49, 50, 51, 52, 53, 54, 55, 56, 57, 97, 98, 99, 100, 101, 102]⟩

/-- The entry of an order. -/
def findE (op : Nat) : List Ent → List UInt8 × Nat × Nat × Bool
  | [] => invalidL
  | e :: r => if e.1 = hexD (op / 16) ∧ e.2.1 = hexD (op % 16) then (e.2.2.2.2, e.2.2.1.toNat - 48, e.2.2.2.1.toNat - 48, true) else findE op r

theorem find_same : ∀ op : Fin 256, findE op.val entsL = if 96 ≤ op.val ∧ op.val < 165 then findE op.val entsL else findRow op.val 42 0 := by decide +kernel
def Ent.body (e : Ent) : List UInt8 := [e.1, e.2.1, 32, e.2.2.1, e.2.2.2.1, 32] ++ e.2.2.2.2
def Ent.ok (e : Ent) : Bool := (Ent.body e).all (fun c => c != 124) && decide (48 ≤ e.2.2.1.toNat) && decide (48 ≤ e.2.2.2.1.toNat) && decide (e.2.2.1.toNat < 100) && decide (e.2.2.2.1.toNat < 100)
theorem ents_ok : entsL.all Ent.ok = true := by decide +kernel
theorem Ent.enc_body (e : Ent) : Ent.enc e = Ent.body e ++ [124] := rfl
theorem table_size : (encAll entsL).length = 970 := by decide +kernel

theorem hex_at (n : Nat) (h : n < 16) : ∃ h' : n < hexV.size, hexV[n] = hexD n := by
  have key : ∀ n : Fin 16, ∃ h' : n.val < hexV.size, hexV[n.val] = hexD n.val := by decide +kernel
  exact key ⟨n, h⟩

theorem run_index (s : ByteArray) (k : IntKind) (i : Int) (n : Nat) (hn : i = n) (h : n < s.size) (c : UInt8) (hc : s[n] = c) (w : World) :
    (Instr.index 9 (.string s) (.int k i)).run Tryd.prog w = .ok (.int .u8 (c.toNat : Nat)) w := by
  subst hn; subst hc
  simp [Instr.index, go_sem, h]

theorem byte_in {T : ByteArray} {k : Nat} {l rest : List UInt8} (hd : T.data.toList.drop k = l ++ rest) (j : Nat) (hj : j < l.length) :
    ∃ h : k + j < T.size, T[k + j] = l[j] := by
  have h1 : (T.data.toList.drop k)[j]? = some l[j] := by rw [hd, List.getElem?_append_left hj]; simp [hj]
  rw [List.getElem?_drop] at h1
  have h2 : k + j < T.data.toList.length := (List.getElem?_eq_some_iff.1 h1).1
  have h3 : T.data.toList[k + j] = l[j] := (List.getElem?_eq_some_iff.1 h1).2
  exact ⟨by simpa using h2, h3⟩

set_option maxRecDepth 100000 in
set_option maxHeartbeats 400000 in
theorem ref_rows (op : Nat) (w : World) (hop : op < 256) (hno : op < 96 ∨ 165 ≤ op) :
    Calls Tryd.prog 15 #[.int .u8 op] w fun e w' => e = .returned (.tuple #[.string ⟨(findE op entsL).1.toArray⟩, .int .i64 (findE op entsL).2.1, .int .i64 (findE op entsL).2.2.1, .bool (findE op entsL).2.2.2]) ∧ Below w.heap.size w w' := by
  have h16 : op / 16 < 16 := by omega
  have h8 : ((op : Int) / 16 == 8) = false := by rw [beq_eq_false_iff_ne]; omega
  have h9 : ((op : Int) / 16 == 9) = false := by rw [beq_eq_false_iff_ne]; omega
  rcases hno with hno | hno
  all_goals
    go_enter Tryd.func15, Tryd.ntmps15
    go_wp2_with (go_at_call 30; refine (table_any _).mono ?_; rintro e w' ⟨rfl, rfl⟩)
    have hT0 : tableV.data.toList.drop 0 = encAll entsL := rfl
    have hTs : tableV.size = 970 := table_size
    generalize tableV = T at *
    generalize hhx : (⟨#[48, 49, 50, 51, 52, 53, 54, 55, 56, 57, 97, 98, 99, 100, 101, 102]⟩ : ByteArray) = hx
    have HX := Lib.hid (show hexV = hx from hhx); clear hhx
    have HT := Lib.hid hT0; clear hT0
    have HTs := Lib.hid hTs; clear hTs
    go_loopw [9, 10] (fun x y wr => ∃ (k : Nat) (es : List Ent), x = .int .i64 k ∧ T.data.toList.drop k = encAll es ∧ k + (encAll es).length = 970 ∧ es.all Ent.ok = true ∧ findE op es = findE op entsL ∧ Below w.heap.size w wr)
      (fun x y _ => 970 - (intOf x).toNat)
    case atStart => exact ⟨0, entsL, rfl, HT.out, by rw [table_size], ents_ok, rfl, Below.refl _ _⟩
    case round =>
      obtain ⟨k, es, rfl, hd, hk, hok, hf, hbw⟩ := hrel
      have HF := Lib.hid hf; clear hf
      have HD := Lib.hid hd; clear hd
      cases es with
      | nil =>
        have hk0 : k = 970 := by simpa [encAll] using hk
        have hlt : (970 : Int) = T.size := by rw [HTs.out]; rfl
        subst hk0
        go_wp2
        refine bodyPost_ret (v := .tuple #[.string ⟨#[73, 78, 86, 65, 76, 73, 68]⟩, .int .i64 0, .int .i64 0, .bool false]) (by simp [results, Tryd.results15, go_sem]) rfl ⟨?_, hbw⟩
        rw [← HF.out]; rfl
      | cons e r =>
        have hkl : k < 970 := by
          have : 0 < (encAll (e :: r)).length := by simp [encAll, Ent.enc]
          omega
        have hkT : k < T.size := by rw [HTs.out]; exact hkl
        have HK := Lib.hid hk; clear hk
        go_wp2_with fail
        obtain ⟨L, hL⟩ : ∃ L, L = (Ent.body e).length := ⟨_, rfl⟩
        have hok1 : Ent.ok e = true := by simp at hok; exact hok.1
        have hdig : 48 ≤ e.2.2.1.toNat ∧ 48 ≤ e.2.2.2.1.toNat ∧ e.2.2.1.toNat < 100 ∧ e.2.2.2.1.toNat < 100 := by
          simp only [Ent.ok, Bool.and_eq_true, decide_eq_true_eq] at hok1
          exact ⟨hok1.1.1.1.2, hok1.1.1.2, hok1.1.2, hok1.2⟩
        have hokr : r.all Ent.ok = true := by simp at hok ⊢; exact hok.2
        have hbyte : ∀ m, k ≤ m → m < k + L → ∃ h : m < T.size, T[m] ≠ 124 ∧ T[m] = (Ent.body e).getD (m - k) 0 := by
          intro m h1 h2
          obtain ⟨h, hb⟩ := byte_in (l := Ent.body e) (rest := 124 :: encAll r) (by rw [HD.out]; simp [encAll, Ent.enc_body]) (m - k) (by omega)
          rw [show k + (m - k) = m by omega] at h
          have hb' : T[m] = (Ent.body e)[m - k] := by rw [← hb]; congr 1; omega
          refine ⟨h, ?_, ?_⟩
          · rw [hb']
            simp only [Ent.ok, Bool.and_eq_true] at hok1
            have := List.all_eq_true.1 hok1.1.1.1.1 (Ent.body e)[m - k] (List.getElem_mem _)
            simpa using this
          · rw [hb']; simp [List.getD, show m - k < (Ent.body e).length by omega]
        have hbar : ∃ h : k + L < T.size, T[k + L] = 124 := by
          obtain ⟨h, hb⟩ := byte_in (l := Ent.body e ++ [124]) (rest := encAll r) (by rw [HD.out]; simp [encAll, Ent.enc_body]) L (by simp; omega)
          refine ⟨h, ?_⟩
          rw [hb]; simp [hL]
        have HL := Lib.hid hL; clear hL hok hok1
        have HB := Lib.hid hbyte; clear hbyte
        have HBar := Lib.hid hbar; clear hbar
        go_loop [10] (fun x => ∃ m : Nat, k ≤ m ∧ m ≤ k + L ∧ x = .int .i64 m) (fun x => 970 - (intOf x).toNat)
        case atStart => exact ⟨k, Nat.le_refl _, by omega, rfl⟩
        case round =>
          obtain ⟨m, hm1, hm2, rfl⟩ := hrel
          by_cases hml : m < k + L
          · obtain ⟨h, hne, hxx⟩ := HB.out m hm1 hml
            clear hxx
            have hne' : ((T[m].toNat : Int) != 124) = true := by
              rw [bne_iff_ne]; intro h0; apply hne; apply UInt8.toNat_inj.1; show _ = 124; omega
            have hm3 : m < 970 := by have := HTs.out; omega
            clear hne
            go_wp2
            exact ⟨⟨m + 1, by omega, by omega, by go_num⟩, by simp [intOf]; omega⟩
          · have hme : m = k + L := by omega
            obtain ⟨h, he⟩ : ∃ h : m < T.size, T[m] = 124 := by subst hme; exact HBar.out
            have he' : ((T[m].toNat : Int) != 124) = false := by rw [he]; rfl
            have hq : k + 6 ≤ m := by rw [hme, HL.out]; simp [Ent.body]
            have hq2 : m < 970 := by have := HTs.out; omega
            have HQ := Lib.hid hme.symm
            clear he hme hml hm1 hm2
            go_wp2_with fail
            obtain ⟨x1, y1⟩ := hex_at (op / 16) h16
            obtain ⟨x2, y2⟩ := hex_at (op % 16) (by omega)
            rw [HX.out] at x1 x2
            have z1 : hx[op / 16] = hexD (op / 16) := by subst hx; exact y1
            have z2 : hx[op % 16] = hexD (op % 16) := by subst hx; exact y2
            clear y1 y2
            have hbd := fun (j : Nat) (hj : j < 6) => HB.out (k + j) (by omega) (by have := HQ.out; omega)
            obtain ⟨w0, n0, b0⟩ := hbd 0 (by omega)
            obtain ⟨w1, n1, b1⟩ := hbd 1 (by omega)
            obtain ⟨w3, n3, b3⟩ := hbd 3 (by omega)
            obtain ⟨w4, n4, b4⟩ := hbd 4 (by omega)
            simp only [Nat.add_zero, Nat.sub_self, Nat.add_sub_cancel_left] at b0 b1 b3 b4 w0
            have b0' : T[k] = e.1 := b0
            have b1' : T[k + 1] = e.2.1 := b1
            have b3' : T[k + 3] = e.2.2.1 := b3
            have b4' : T[k + 4] = e.2.2.2.1 := b4
            clear b0 b1 b3 b4 hbd
            have i0 := run_index hx .u8 ((op : Int) / 16) (op / 16) (by omega) x1 _ z1
            have i1 := run_index hx .u8 ((op : Int) % 16) (op % 16) (by omega) x2 _ z2
            have i2 := run_index T .i64 (k : Int) k rfl w0 _ b0'
            have i3 := run_index T .i64 ((k : Int) + 1) (k + 1) (by omega) w1 _ b1'
            have i4 := run_index T .i64 ((k : Int) + 3) (k + 3) (by omega) w3 _ b3'
            have i5 := run_index T .i64 ((k : Int) + 4) (k + 4) (by omega) w4 _ b4'
            clear z1 z2 x1 x2 n0 n1 n3 n4 b0' b1' b3' b4'
            clear w0 w1 w3 w4
            have hnext : T.data.toList.drop (m + 1) = encAll r := by
              rw [← HQ.out, show k + L + 1 = k + (L + 1) by omega, ← List.drop_drop, HD.out]
              simp [encAll, Ent.enc_body, HL.out]
            have hnlen : m + 1 + (encAll r).length = 970 := by
              have h1 := HK.out; have h2 := HQ.out; have h3 := HL.out
              simp [encAll, Ent.enc_body] at h1; omega
            have HN := Lib.hid hnext; clear hnext
            have HNL := Lib.hid hnlen; clear hnlen
            obtain ⟨d1, hd1⟩ : ∃ d, hexD (op / 16) = d := ⟨_, rfl⟩
            obtain ⟨d2, hd2⟩ : ∃ d, hexD (op % 16) = d := ⟨_, rfl⟩
            rw [hd1] at i0; rw [hd2] at i1
            have HD1 := Lib.hid hd1; clear hd1
            have HD2 := Lib.hid hd2; clear hd2
            by_cases hh : e.1 = d1
            · have t1 : ((e.1.toNat : Int) == (d1.toNat : Int)) = true := by rw [hh]; simp
              by_cases hl : e.2.1 = d2
              · have t2 : ((e.2.1.toNat : Int) == (d2.toNat : Int)) = true := by rw [hl]; simp
                go_quiet (fail)
                go_wp2
                have hbw2 : Below w.heap.size w (wr.drewN nq) := hbw.trans ⟨rfl, rfl, rfl, Nat.le_refl _, fun _ _ => rfl⟩
                generalize wr.drewN nq = w2 at *
                clear hbw
                obtain ⟨g1, g2, g3, g4⟩ := hdig
                obtain ⟨a1, ha1⟩ : ∃ a : Nat, e.2.2.1.toNat = a := ⟨_, rfl⟩
                obtain ⟨a2, ha2⟩ : ∃ a : Nat, e.2.2.2.1.toNat = a := ⟨_, rfl⟩
                rw [ha1] at i4 g1 g3
                rw [ha2] at i5 g2 g4
                have hff : findE op entsL = (e.2.2.2.2, a1 - 48, a2 - 48, true) := by
                  rw [← HF.out, findE, if_pos (by rw [HD1.out, HD2.out]; exact ⟨hh, hl⟩), ha1, ha2]
                have HFF := Lib.hid hff
                clear hh hl hff ha1 ha2
                go_quiet (fail)
                go_wp2
                have hext : T.extract (k + 6) m = ⟨e.2.2.2.2.toArray⟩ := by
                  apply ByteArray.ext
                  apply Array.ext'
                  rw [Lib.extract_data, ← List.drop_drop, HD.out, ← HQ.out]
                  simp [encAll, Ent.enc, HL.out, Ent.body]
                  rw [List.take_append_of_le_length (by omega), List.take_of_length_le (by omega)]
                refine bodyPost_ret (v := .tuple #[.string (T.extract (k + 6) m), .int .i64 ((a1 : Int) - 48), .int .i64 ((a2 : Int) - 48), .bool true]) (by simp [results, Tryd.results15, go_sem]) rfl ⟨?_, hbw2.trans ⟨rfl, rfl, rfl, Nat.le_refl _, fun _ _ => rfl⟩⟩
                rw [HFF.out, hext]
                dsimp only
                rw [show ((a1 - 48 : Nat) : Int) = (a1 : Int) - 48 by omega, show ((a2 - 48 : Nat) : Int) = (a2 : Int) - 48 by omega]
              · have t2 : ((e.2.1.toNat : Int) == (d2.toNat : Int)) = false := by
                  rw [beq_eq_false_iff_ne]; intro h0; apply hl; apply UInt8.toNat_inj.1; omega
                have hff : findE op (e :: r) = findE op r := by
                  rw [findE, if_neg (by rw [HD2.out]; exact fun h => hl h.2)]
                have HFF := Lib.hid hff
                clear hl hh hff
                go_quiet (fail)
                go_wp2
                go_roundw
                case rel => exact ⟨m + 1, r, by go_num, HN.out, HNL.out, hokr, by rw [← HFF.out]; exact HF.out, hbw.trans ⟨rfl, rfl, rfl, Nat.le_refl _, fun _ _ => rfl⟩⟩
                case measure => simp [intOf]; omega
            · have t1 : ((e.1.toNat : Int) == (d1.toNat : Int)) = false := by
                rw [beq_eq_false_iff_ne]; intro h0; apply hh; apply UInt8.toNat_inj.1; omega
              have hff : findE op (e :: r) = findE op r := by
                rw [findE, if_neg (by rw [HD1.out]; exact fun h => hh h.1)]
              have HFF := Lib.hid hff
              clear hh hff
              go_quiet (fail)
              go_wp2
              go_roundw
              case rel => exact ⟨m + 1, r, by go_num, HN.out, HNL.out, hokr, by rw [← HFF.out]; exact HF.out, hbw.trans ⟨rfl, rfl, rfl, Nat.le_refl _, fun _ _ => rfl⟩⟩
              case measure => simp [intOf]; omega

end Go.Proofs.YtkelpkpbkebphaaDoor
