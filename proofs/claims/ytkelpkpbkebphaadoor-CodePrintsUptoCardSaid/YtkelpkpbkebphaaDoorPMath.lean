/- What a code is as a text: the plain law, and a world in which a builder holds the text so far. -/
import Derived.Lib.ItoaLen
import Derived.Test.YtkelpkpbkebphaaDoorBuild
namespace Go.Proofs.YtkelpkpbkebphaaDoor
open Go.RowKit Go.Shelf Go.Proofs

def digL : List UInt8 := [48, 49, 50, 51, 52, 53, 54, 55, 56, 57, 97, 98, 99, 100, 101, 102]
def hexI (x : Nat) : List UInt8 := [digL.getD (x / 16) 0, digL.getD (x % 16) 0]
def hexTo (bs : List Int) (p : Nat) : Nat → List UInt8
  | 0 => []
  | j + 1 => hexTo bs p j ++ hexI (bs.getD (p + j) 0).toNat
def headP (bs : List Int) (k : Nat) : List UInt8 := Lib.itoa (k : Nat) ++ [32] ++ (ofL (bs.getD k 0).toNat).1
def lineP (bs : List Int) (k : Nat) : List UInt8 :=
  headP bs k ++ (if 1 < endOf bs k - k then [32] else []) ++ hexTo bs (k + 1) (endOf bs k - k - 1) ++ [10]
def textP (bs : List Int) (ks : List Nat) : List UInt8 := ks.flatMap (lineP bs)
theorem dig_at (i : Nat) (h : i < (⟨#[48, 49, 50, 51, 52, 53, 54, 55, 56, 57, 97, 98, 99, 100, 101, 102]⟩ : ByteArray).size) : (⟨#[48, 49, 50, 51, 52, 53, 54, 55, 56, 57, 97, 98, 99, 100, 101, 102]⟩ : ByteArray)[i]'h = digL.getD i 0 := by
  have h16 : i < 16 := h
  have key : ∀ j : Fin 16, (⟨#[48, 49, 50, 51, 52, 53, 54, 55, 56, 57, 97, 98, 99, 100, 101, 102]⟩ : ByteArray)[j.1]'j.2 = digL.getD j.1 0 := by decide
  exact key ⟨i, h16⟩
theorem bytes_add (a b : List UInt8) : (⟨a.toArray⟩ : ByteArray) ++ ⟨b.toArray⟩ = ⟨(a ++ b).toArray⟩ := ByteArray.ext (by simp)
theorem textP_snoc (bs : List Int) (ks : List Nat) (k : Nat) : textP bs (ks ++ [k]) = textP bs ks ++ lineP bs k := by simp [textP]

theorem hexTo_length (bs : List Int) (p : Nat) : ∀ j, (hexTo bs p j).length = 2 * j
  | 0 => rfl
  | j + 1 => by rw [hexTo, List.length_append, hexTo_length bs p j]; simp [hexI]; omega
theorem rows_short : ∀ op, op < 256 → (findRow op 42 0).1.length ≤ 25 := by decide +kernel
theorem name_short (op : Nat) (h : op < 256) : (ofL op).1.length ≤ 25 := by
  unfold ofL
  split
  · have := Lib.itoa_length_le ((op - 95 : Nat) : Int) (by omega) (by omega); simp; omega
  · split
    · have := Lib.itoa_length_le ((op - 127 : Nat) : Int) (by omega) (by omega); simp; omega
    · split
      · have := Lib.itoa_length_le ((op - 143 : Nat) : Int) (by omega) (by omega); simp; omega
      · split
        · have := Lib.itoa_length_le ((op - 160 : Nat) : Int) (by omega) (by omega); simp; omega
        · exact rows_short op h
theorem headP_length (bs : List Int) (hr : ∀ i, 0 ≤ bs.getD i 0 ∧ bs.getD i 0 < 256) (k : Nat) (hk : k ≤ 1048576) : (headP bs k).length ≤ 47 := by
  have h1 := Lib.itoa_length_le (k : Nat) (by omega) (by omega)
  have h2 := name_short (bs.getD k 0).toNat (by have := hr k; omega)
  simp only [headP, List.length_append, List.length_singleton]; omega
theorem lineP_length (bs : List Int) (hr : ∀ i, 0 ≤ bs.getD i 0 ∧ bs.getD i 0 < 256) (k : Nat) (hk : k ≤ 1048576) : (lineP bs k).length ≤ 128 := by
  have h1 := headP_length bs hr k hk
  have h2 := hexTo_length bs (k + 1) (endOf bs k - k - 1)
  have h3 : endOf bs k - k - 1 ≤ 32 := by have := pushN_le (bs.getD k 0); unfold endOf; omega
  simp only [lineP, List.length_append, h2, List.length_singleton]
  split <;> simp <;> omega
theorem textP_length (bs : List Int) (hr : ∀ i, 0 ≤ bs.getD i 0 ∧ bs.getD i 0 < 256) : ∀ ks : List Nat, (∀ k ∈ ks, k ≤ 1048576) → (textP bs ks).length ≤ 128 * ks.length
  | [], _ => by simp [textP]
  | k :: ks, h => by
    have h1 := lineP_length bs hr k (h k (by simp))
    have h2 := textP_length bs hr ks (fun x hx => h x (by simp [hx]))
    have e : textP bs (k :: ks) = lineP bs k ++ textP bs ks := by simp [textP]
    rw [e, List.length_append, List.length_cons]
    omega

theorem itoa_any (n : Int) (h0 : -9223372036854775808 ≤ n) (h1 : n ≤ 9223372036854775807) (w : World) (HT : Tabs w) :
    Calls Tryd.prog 29 #[.int .i64 n] w fun e w' => e = .returned (.string ⟨(Lib.itoa n).toArray⟩) ∧ Below w.heap.size w w' := by
  refine (Tryd.strconv_Itoa n h0 h1 w HT.pow).mono ?_
  rintro e w' ⟨rfl, k, os, rfl⟩
  exact ⟨rfl, Lib.below_grow _ _ (Nat.le_refl _) k os⟩

theorem grown_below {W W' : World} (h : Below W.heap.size W W') : W.grownBy W' none := ⟨h.os, h.tape, h.output, h.size, fun k hk _ => h.block k hk⟩

theorem builder_own {β : Type} (B b : Nat) (f : β → List Value) : Own (fun s W => Lib.IsBuilder 49 5 B b (f s) W) := by
  intro s X Y row h hg hrow
  have key : ∀ p, Lib.BuilderAt 49 5 B b p (f s) X → Lib.BuilderAt 49 5 B b p (f s) Y := by
    rintro p ⟨hB, v, hb, hown, hne⟩
    refine ⟨hB, v, ?_, hown.kept hg ?_, hne⟩
    · refine (hg.block b (lt_of_some hb) ?_).trans hb
      intro e
      obtain ⟨o, ho, hc⟩ := hrow b e.symm
      rw [hb] at ho; cases ho; cases hc
    · rcases hown.2 with ⟨rfl, _⟩ | ⟨g, cap, cur, rfl, _, hgb, _⟩
      · exact .inl rfl
      · refine .inr fun e' => ?_
        obtain ⟨o, ho, hc⟩ := hrow g (by simpa [Value.ownBlock] using e'.symm)
        rw [hgb] at ho; cases ho; cases hc
  exact h.elim (fun h => .inl (key _ h)) (fun h => .inr (key _ h))

/-- A world in the midst of the text: the builder holds l, the code's box is as it was, and all that lay below. -/
structure St (w : World) (bv : Value) (W0 : World) (l : List UInt8) (W : World) : Prop where
  bld : Lib.IsBuilder 49 5 w.heap.size w.heap.size (Lib.byteCells l) W
  box : Boxed W (w.heap.size + 1) 22 bv
  below : Below w.heap.size w W
  keep : KeepB W0 W

theorem St.quiet {w : World} {bv : Value} {W0 : World} {l : List UInt8} {W W' : World} (h : St w bv W0 l W) (hb : Below W.heap.size W W') : St w bv W0 l W' :=
  ⟨builder_own _ _ (fun _ : Unit => Lib.byteCells l) () W W' none h.bld (grown_below hb) (fun r e => by cases e), (hb.block _ h.box.lt).trans h.box, h.below.trans (hb.mono h.below.size), h.keep.trans (KeepB.of_below hb)⟩
theorem St.byte {w : World} {bv : Value} {W0 : World} {l : List UInt8} {W : World} (h : St w bv W0 l W) (c : UInt8) (hl : l.length + 1 ≤ 140737488355328) :
    Calls Tryd.prog 36 #[.pointer (some ⟨w.heap.size, 0, none⟩), .int .u8 (c.toNat : Nat)] W fun e w' => e = .returned .nilIface ∧ St w bv W0 (l ++ [c]) w' := by
  refine (writeByte_any w.heap.size w.heap.size (Lib.byteCells l) c.toNat W h.bld (by rw [Lib.byteCells_length]; exact hl) h.below.size).mono ?_
  rintro e w' ⟨rfl, hB, hb, hk⟩
  refine ⟨rfl, .inr ?_, hk.same _ _ h.box rfl, h.below.trans hb, h.keep.trans hk⟩
  rw [Lib.byteCells_append]
  exact hB
theorem St.str {w : World} {bv : Value} {W0 : World} {l : List UInt8} {W : World} (h : St w bv W0 l W) (s : List UInt8) (hl : l.length + s.length ≤ 140737488355328) :
    Calls Tryd.prog 35 #[.pointer (some ⟨w.heap.size, 0, none⟩), .string ⟨s.toArray⟩] W fun e w' => e = .returned (.tuple #[.int .i64 (s.length : Nat), .nilIface]) ∧ St w bv W0 (l ++ s) w' := by
  refine (writeString_any w.heap.size w.heap.size (Lib.byteCells l) ⟨s.toArray⟩ W h.bld (by rw [Lib.byteCells_length]; exact hl) h.below.size).mono ?_
  rintro e w' ⟨rfl, hB, hb, hk⟩
  refine ⟨rfl, .inr ?_, hk.same _ _ h.box rfl, h.below.trans hb, h.keep.trans hk⟩
  rw [Lib.byteCells_append]
  exact hB
end Go.Proofs.YtkelpkpbkebphaaDoor
