/- Operations that compute by themselves, run all at once by the kernel: a list of operations of which none calls, defers or panics is as its run says. -/
import Derived.WalkKit
namespace Go.Proofs.YtkelpkpbkebphaaDoor
open Go

def runOps (P : Program) (ops : Array Oper) : List Oper → Act → World → Option (Act × World)
  | [], a, w => some (a, w)
  | o :: rest, a, w =>
    if Region.wanted o (yielded ops a.tmps) then
      match (execOp a.eval o).run P w with
      | .ok (.value v) w' => runOps P ops rest (a.put o.dst v) w'
      | .ok .skip w' => runOps P ops rest (a.put o.dst undef) w'
      | _ => none
    else runOps P ops rest (a.put o.dst undef) w

theorem wpList_run {P : Program} {ops : Array Oper} {Q : Exit → Act → World → Prop} {l2 : List Oper} :
    ∀ (l1 : List Oper) {a : Act} {w : World} {r : Act × World}, runOps P ops l1 a w = some r → wpList P ops Q l2 r.1 r.2 → wpList P ops Q (l1 ++ l2) a w
  | [], a, w, r, h, hq => by
    simp only [runOps, Option.some.injEq] at h
    subst h; exact hq
  | o :: rest, a, w, r, h, hq => by
    rw [List.cons_append]
    unfold wpList
    unfold runOps at h
    split
    · rename_i hw
      rw [if_pos hw] at h
      refine .inl ?_
      unfold Oper.wp Oper.upon
      split at h
      · rename_i v w' he; rw [he]; exact wpList_run rest h hq
      · rename_i w' he; rw [he]; exact wpList_run rest h hq
      · exact absurd h (by simp)
    · rename_i hw
      rw [if_neg hw] at h
      exact wpList_run rest h hq

/-- The first n operations at once: what they leave of the world is one closed fact; what they leave of the frame is asked for by `run_proj`. -/
theorem wpList_runN {P : Program} {ops : Array Oper} {Q : Exit → Act → World → Prop} {l : List Oper} {a : Act} {w : World} (n : Nat) (w' : World)
    (h : (runOps P ops (l.take n) a w).map (·.2) = some w')
    (hq : ∀ a', (runOps P ops (l.take n) a w).map (·.1) = some a' → wpList P ops Q (l.drop n) a' w') : wpList P ops Q l a w := by
  cases hr : runOps P ops (l.take n) a w with
  | none => rw [hr] at h; cases h
  | some r =>
    rw [hr] at h hq
    obtain rfl : r.2 = w' := by simpa using h
    have := wpList_run (P := P) (ops := ops) (Q := Q) (l2 := l.drop n) (l.take n) hr (hq r.1 rfl)
    rwa [List.take_append_drop] at this

theorem run_proj {β : Type} {x : Option (Act × World)} {a' : Act} (h : x.map (·.1) = some a') (f : Act → β) {v : β} (hv : x.map (fun r => f r.1) = some v) : f a' = v := by
  cases x with
  | none => cases h
  | some r => simp at h hv; rw [← h]; exact hv

theorem wp_of_run {P : Program} {o : Oper} {a : Act} {w w' : World} {K : Act → World → Prop} {Q : Exit → Act → World → Prop} {v : Value}
    (h : (execOp a.eval o).run P w = .ok (.value v) w') (hk : K (a.put o.dst v) w') : o.wp P a w K Q := by
  unfold Oper.wp; rw [h]; exact hk

end Go.Proofs.YtkelpkpbkebphaaDoor
