/- Plain facts on codes as lists of bytes: the places of orders, of jumps; no program in sight. -/
namespace Go.Proofs.YtkelpkpbkebphaaDoor

/-- How many bytes an order has behind it. -/
def pushN (c : Int) : Nat := if 96 ≤ c ∧ c < 128 then (c - 95).toNat else 0

theorem pushN_le (c : Int) : pushN c ≤ 32 := by unfold pushN; split <;> omega
theorem pushN_jump : pushN 91 = 0 := by decide

/-- The places of all orders from a place on. -/
def ords (b : List Int) (at_ : Nat) : List Nat :=
  if h : at_ < b.length then at_ :: ords b (at_ + 1 + pushN (b.getD at_ 0)) else []
termination_by b.length - at_
decreasing_by omega

theorem ords_lt {b : List Int} {k : Nat} (h : k < b.length) : ords b k = k :: ords b (k + 1 + pushN (b.getD k 0)) := by
  rw [ords, dif_pos h]
theorem ords_ge {b : List Int} {k : Nat} (h : b.length ≤ k) : ords b k = [] := by
  rw [ords, dif_neg (by omega)]

/-- Induction along the places. -/
theorem ords_ind {b : List Int} {P : Nat → Prop} (hge : ∀ k, b.length ≤ k → P k)
    (hlt : ∀ k, k < b.length → P (k + 1 + pushN (b.getD k 0)) → P k) : ∀ k, P k := by
  have key : ∀ n k, b.length - k ≤ n → P k := by
    intro n
    induction n with
    | zero => intro k h; exact hge k (by omega)
    | succ n ih =>
      intro k h
      by_cases hk : k < b.length
      · exact hlt k hk (ih _ (by omega))
      · exact hge k (by omega)
  exact fun k => key _ k (Nat.le_refl _)

theorem ords_bound (b : List Int) : ∀ k, ∀ i ∈ ords b k, k ≤ i ∧ i < b.length := by
  refine ords_ind (b := b) (P := fun k => ∀ i ∈ ords b k, k ≤ i ∧ i < b.length) ?_ ?_
  · intro k h i hi; rw [ords_ge h] at hi; simp at hi
  · intro k h ih i hi
    rw [ords_lt h] at hi
    rcases List.mem_cons.1 hi with rfl | hi
    · exact ⟨Nat.le_refl _, h⟩
    · have := ih i hi; omega

theorem ords_length (b : List Int) : ∀ k, (ords b k).length ≤ b.length - k := by
  refine ords_ind (b := b) (P := fun k => (ords b k).length ≤ b.length - k) ?_ ?_
  · intro k h; rw [ords_ge h]; simp
  · intro k h ih; rw [ords_lt h, List.length_cons]; omega

/-- Where may be jumped to. -/
def isDest (b : List Int) (k : Nat) : Bool := b.getD k 0 == 91
def jmps (b : List Int) (k : Nat) : List Nat := (ords b k).filter (isDest b)

theorem jmps_ge {b : List Int} {k : Nat} (h : b.length ≤ k) : jmps b k = [] := by simp [jmps, ords_ge h]
theorem jmps_yes {b : List Int} {k : Nat} (h : k < b.length) (hd : b.getD k 0 = 91) : jmps b k = k :: jmps b (k + 1 + pushN (b.getD k 0)) := by
  have hd' : isDest b k = true := by simpa [isDest] using hd
  rw [jmps, ords_lt h, List.filter_cons_of_pos hd', jmps]
theorem jmps_no {b : List Int} {k : Nat} (h : k < b.length) (hd : b.getD k 0 ≠ 91) : jmps b k = jmps b (k + 1 + pushN (b.getD k 0)) := by
  have hd' : ¬ isDest b k = true := by simpa [isDest] using hd
  rw [jmps, ords_lt h, List.filter_cons_of_neg hd', jmps]
theorem jmps_length (b : List Int) (k : Nat) : (jmps b k).length ≤ b.length := by
  have := List.length_filter_le (isDest b) (ords b k)
  have := ords_length b k
  unfold jmps; omega

/-- A code ends with a whole order. -/
def endsAt (b : List Int) (k : Nat) : Nat := if h : k < b.length then endsAt b (k + 1 + pushN (b.getD k 0)) else k
termination_by b.length - k
decreasing_by omega
theorem endsAt_lt {b : List Int} {k : Nat} (h : k < b.length) : endsAt b k = endsAt b (k + 1 + pushN (b.getD k 0)) := by rw [endsAt, dif_pos h]
theorem endsAt_ge {b : List Int} {k : Nat} (h : b.length ≤ k) : endsAt b k = k := by rw [endsAt, dif_neg (by omega)]

/-- The last order, if there is one, ends where the code's walk ends. -/
theorem endsAt_last (b : List Int) : ∀ k, ∀ i, (ords b k).getLast? = some i → endsAt b k = i + 1 + pushN (b.getD i 0) := by
  refine ords_ind (b := b) (P := fun k => ∀ i, (ords b k).getLast? = some i → endsAt b k = i + 1 + pushN (b.getD i 0)) ?_ ?_
  · intro k h i hi; rw [ords_ge h] at hi; simp at hi
  · intro k h ih i hi
    rw [endsAt_lt h]
    rw [ords_lt h] at hi
    by_cases hk : k + 1 + pushN (b.getD k 0) < b.length
    · refine ih i ?_
      rw [ords_lt hk] at hi ⊢
      simpa [List.getLast?_cons_cons] using hi
    · rw [ords_ge (by omega)] at hi
      have : k = i := by simpa using hi
      subst this
      rw [endsAt_ge (by omega)]
theorem endsAt_none (b : List Int) (h : (ords b 0).length = 0) : b.length = 0 := by
  by_cases hb : 0 < b.length
  · rw [ords_lt hb] at h; simp at h
  · omega

/-- One code behind the other. -/
theorem ords_append (a b : List Int) : ∀ k, endsAt a k = a.length → k ≤ a.length →
    ords (a ++ b) k = ords a k ++ (ords b 0).map (· + a.length) := by
  have hb : ∀ j, ords (a ++ b) (j + a.length) = (ords b j).map (· + a.length) := by
    refine ords_ind (b := b) (P := fun j => ords (a ++ b) (j + a.length) = (ords b j).map (· + a.length)) ?_ ?_
    · intro j h; rw [ords_ge h, ords_ge (by simp; omega)]; rfl
    · intro j h ih
      have e : (a ++ b).getD (j + a.length) 0 = b.getD j 0 := by simp [List.getD, List.getElem?_append_right]
      rw [ords_lt h, ords_lt (by simp; omega), e, List.map_cons, ← ih]
      congr 2; omega
  refine ords_ind (b := a) (P := fun k => endsAt a k = a.length → k ≤ a.length → ords (a ++ b) k = ords a k ++ (ords b 0).map (· + a.length)) ?_ ?_
  · intro k h _ hle
    have : k = a.length := by omega
    subst this
    rw [ords_ge (b := a) (Nat.le_refl _)]
    simpa using hb 0
  · intro k h ih he _
    rw [endsAt_lt h] at he
    have hle : k + 1 + pushN (a.getD k 0) ≤ a.length := by
      by_cases h' : a.length < k + 1 + pushN (a.getD k 0)
      · rw [endsAt_ge (by omega)] at he; omega
      · omega
    have e : (a ++ b).getD k 0 = a.getD k 0 := by simp [List.getD, List.getElem?_append_left h]
    rw [ords_lt h, ords_lt (by simp; omega), e, ih he hle]; rfl

theorem jmps_append (a b : List Int) (h : endsAt a 0 = a.length) : jmps (a ++ b) 0 = jmps a 0 ++ (jmps b 0).map (· + a.length) := by
  unfold jmps
  rw [ords_append a b 0 h (Nat.zero_le _), List.filter_append]
  congr 1
  · apply List.filter_congr
    intro k hk
    have := (ords_bound a 0 k hk).2
    simp [isDest, List.getD, List.getElem?_append_left this]
  · rw [List.filter_map]
    congr 1
    apply List.filter_congr
    intro k _
    simp [isDest, List.getD, List.getElem?_append_right]

end Go.Proofs.YtkelpkpbkebphaaDoor
