/- Where may be jumped to, the program's search and the document's; no place inside an order's bytes is one: the walk. -/
import Derived.Test.YtkelpkpbkebphaaDoorCounts
namespace Go.Proofs.YtkelpkpbkebphaaDoor
open Go.RowKit Go.Shelf Go.Proofs

theorem ords_sorted (b : List Int) : ∀ k, (ords b k).Pairwise (· < ·) := by
  refine ords_ind (b := b) (P := fun k => (ords b k).Pairwise (· < ·)) ?_ ?_
  · intro k h; rw [ords_ge h]; exact List.Pairwise.nil
  · intro k h ih
    rw [ords_lt h]
    refine List.pairwise_cons.2 ⟨fun j hj => ?_, ih⟩
    have := (ords_bound b _ j hj).1
    omega
theorem jmps_sorted (b : List Int) (k : Nat) : ((jmps b k).map (fun (x : Nat) => (x : Int))).Pairwise (· ≤ ·) := by
  rw [List.pairwise_map]
  exact ((ords_sorted b k).filter _).imp (by intro a b h; omega)

theorem ords_gap (b : List Int) : ∀ k, ∀ i ∈ ords b k, ∀ j ∈ ords b k, i < j → i + 1 + pushN (b.getD i 0) ≤ j := by
  refine ords_ind (b := b) (P := fun k => ∀ i ∈ ords b k, ∀ j ∈ ords b k, i < j → i + 1 + pushN (b.getD i 0) ≤ j) ?_ ?_
  · intro k h i hi; rw [ords_ge h] at hi; simp at hi
  · intro k h ih i hi j hj hij
    rw [ords_lt h] at hi hj
    rcases List.mem_cons.1 hi with rfl | hi
    · rcases List.mem_cons.1 hj with rfl | hj
      · omega
      · exact (ords_bound b _ j hj).1
    · rcases List.mem_cons.1 hj with rfl | hj
      · have := (ords_bound b _ i hi).1; omega
      · exact ih i hi j hj hij

/-- No place inside an order's bytes may be jumped to. -/
theorem no_inside (b : List Int) (i k : Nat) (hi : ((ords b 0).any fun (x : Nat) => (x : Int) == (i : Nat)) = true) (h1 : 1 ≤ k) (h2 : k ≤ pushN (b.getD i 0)) :
    ((jmps b 0).any fun (x : Nat) => (x : Int) == (i : Nat) + (k : Nat)) = false := by
  obtain ⟨x, hx, hxi⟩ := List.any_eq_true.1 hi
  have hxi' : x = i := by have := eq_of_beq hxi; omega
  subst hxi'
  rw [List.any_eq_false]
  intro y hy
  have hy' := (List.mem_filter.1 hy).1
  intro e
  have e' := eq_of_beq e
  have := ords_gap b 0 x hx y hy' (by omega)
  omega

theorem any_contains (l : List Nat) (x : Int) : (l.map (fun (y : Nat) => (y : Int))).contains x = l.any (fun (y : Nat) => (y : Int) == x) := by
  induction l with
  | nil => rfl
  | cons a l ih => rw [List.map_cons, List.contains_cons, List.any_cons, ih]; congr 1; exact Bool.beq_comm

set_option maxRecDepth 100000 in
set_option maxHeartbeats 400000 in
theorem search_any (A : Option Addr) (c base : Nat) (l : List Nat) (x : Int) (w : World) (h : Ints w A base l) (hl : l.length ≤ 1048576) (hs : (l.map (fun (y : Nat) => (y : Int))).Pairwise (· ≤ ·)) :
    Calls Tryd.prog 33 #[.slice A l.length c, .int .i64 x] w fun e w' => ∃ n : Int, e = .returned (.tuple #[.int .i64 n, .bool (l.any fun (k : Nat) => (k : Int) == x)]) ∧ Below w.heap.size w w' := by
  by_cases h0 : l.length = 0
  · have e : l = [] := List.length_eq_zero_iff.1 h0
    subst e
    refine (Tryd.slices_BinarySearch_int_empty A c x w).mono ?_
    rintro e w' ⟨rfl, rfl⟩
    exact ⟨0, rfl, Below.refl _ _⟩
  · obtain ⟨g, rfl, hg, hgw, hc0⟩ := h.cell 0 (by omega)
    have ht : (l.map (fun (y : Nat) => (y : Int))).take l.length = l.map (fun (y : Nat) => (y : Int)) := List.take_of_length_le (by simp)
    refine (Tryd.slices_BinarySearch_int g 0 l.length c (l.map (fun (y : Nat) => (y : Int))) x w (by simp) (by omega) ?_ (by rw [ht]; exact hs)).mono ?_
    · intro j hj
      obtain ⟨g', hg', _, _, hc⟩ := h.cell j (by simpa using hj)
      cases hg'
      rw [Nat.zero_add, hc]
      simp at hj
      simp [List.getD, hj]
    · rintro e w' ⟨rfl, q, rfl⟩
      rw [ht, any_contains]
      exact ⟨_, rfl, Below.drewN' (Below.refl _ _) q⟩

set_option maxRecDepth 100000 in
set_option maxHeartbeats 400000 in
theorem may_any (b off cap : Nat) (bs : List Int) (hlen : bs.length ≤ 1048576) (hcap : bs.length ≤ cap) (w : World) (hI : BytesAt w b off bs) (x : Int) :
    Calls Tryd.prog 21 #[.slice (some ⟨b, off, none⟩) bs.length cap, .int .i64 x] w fun e w' => e = .returned (.bool ((jmps bs 0).any fun (k : Nat) => (k : Int) == x)) ∧ Below w.heap.size w w' := by
  have hJ := Lib.hid (jumps_any b off cap bs hlen hcap w hI)
  have hs := Lib.hid (jmps_sorted bs 0)
  have hl : (jmps bs 0).length ≤ 1048576 := by have := jmps_length bs 0; omega
  clear hI
  generalize jmps bs 0 = l at *
  go_enter Tryd.func21, Tryd.ntmps21
  go_wp2_with fail
  refine hJ.out.mono ?_
  rintro e w1 ⟨v, rfl, hown, hb1⟩
  obtain ⟨L, cl, rfl, hLc, hL⟩ := owns_ints hown
  have hS := Lib.hid (search_any L cl w.heap.size l x w1 hL hl hs.out)
  clear hown hJ hL
  obtain ⟨r, hr⟩ : ∃ r, l.any (fun (k : Nat) => (k : Int) == x) = r := ⟨_, rfl⟩
  rw [hr] at hS
  have HR := Lib.hid hr; clear hr
  go_wp2_with fail
  refine hS.out.mono ?_
  rintro e w2 ⟨n, rfl, hb2⟩
  go_wp2
  go_ret
  exact ⟨by rw [HR.out]; rfl, hb1.trans (hb2.mono hb1.size)⟩
end Go.Proofs.YtkelpkpbkebphaaDoor
