/- Code that computes by itself, without memory (loops too), run all at once by the kernel. -/
import Derived.Still
import Derived.LoopN
import Derived.Deep.Draws
import Derived.WalkSpells
import Derived.Test.YtkelpkpbkebphaaDoorRun
namespace Go.Proofs.YtkelpkpbkebphaaDoor
open Go

/-- What an operation comes to, if it asks nothing of the world. -/
def reck {α : Type} (P : Program) : Sem α → Option α
  | .pure a => some a
  | .program k => reck P (k P)
  | .mark _ k => reck P k
  | _ => none

theorem reck_run {α : Type} {P : Program} (s : Sem α) {v : α} (h : reck P s = some v) (w : World) : s.run P w = .ok v w := by
  induction s generalizing v with
  | pure a => simp only [reck, Option.some.injEq] at h; rw [← h]; rfl
  | program k ih => exact ih P h
  | mark m k ih => exact ih h
  | _ => simp [reck] at h

abbrev CallT := FuncId → Array Value → Option (Value × Nat)

/-- A call that a table answers: the value, and how many draws it takes. -/
def CallT.ok (T : CallT) (P : Program) : Prop := ∀ f args v k, T f args = some (v, k) → ∀ w, Calls P f args w fun e w' => e = .returned v ∧ w' = w.drewN k

def runL (P : Program) (T : CallT) (ops : Array Oper) : List Oper → Act → Option (Act × Nat)
  | [], a => some (a, 0)
  | o :: rest, a =>
    if Region.wanted o (yielded ops a.tmps) then
      match reck P (execOp a.eval o) with
      | some (.value v) => runL P T ops rest (a.put o.dst v)
      | some .skip => runL P T ops rest (a.put o.dst undef)
      | some (.enter f args) =>
        match T f args with
        | some (v, k) => (runL P T ops rest (a.put o.dst v)).map fun r => (r.1, k + r.2)
        | none => none
      | _ => none
    else runL P T ops rest (a.put o.dst undef)

theorem wpList_runL {P : Program} {T : CallT} (hT : T.ok P) {ops : Array Oper} {Q : Exit → Act → World → Prop} :
    ∀ (l : List Oper) (w : World) {a : Act} {r : Act × Nat}, runL P T ops l a = some r → Q .normal r.1 (w.drewN r.2) → wpList P ops Q l a w
  | [], w, a, r, h, hq => by
    simp only [runL, Option.some.injEq] at h
    subst h; exact hq
  | o :: rest, w, a, r, h, hq => by
    unfold wpList
    unfold runL at h
    split
    · rename_i hw
      rw [if_pos hw] at h
      refine .inl ?_
      unfold Oper.wp Oper.upon
      split at h
      · rename_i v he; rw [reck_run _ he w]; exact wpList_runL hT rest w h hq
      · rename_i he; rw [reck_run _ he w]; exact wpList_runL hT rest w h hq
      · rename_i f args he
        rw [reck_run _ he w]
        split at h
        · rename_i v k hc
          cases hr : runL P T ops rest (a.put o.dst v) with
          | none => rw [hr] at h; cases h
          | some r1 =>
            rw [hr] at h
            simp only [Option.map_some, Option.some.injEq] at h
            subst h
            refine (hT f args v k hc w).mono ?_
            rintro e w' ⟨rfl, rfl⟩
            exact wpList_runL hT rest _ hr (by rw [World.drewN_drewN]; exact hq)
        · cases h
      · exact absurd h (by simp)
    · rename_i hw
      rw [if_neg hw] at h
      exact wpList_runL hT rest w h hq

theorem wpStill_runL {P : Program} {T : CallT} (hT : T.ok P) {ops : Array Oper} {Q : Act → Prop} (w : World) :
    ∀ (l : List Oper) {a : Act} {r : Act × Nat}, runL P T ops l a = some r → r.2 = 0 → Q r.1 → wpStill P ops w Q l a
  | [], a, r, h, _, hq => by
    simp only [runL, Option.some.injEq] at h
    subst h; exact hq
  | o :: rest, a, r, h, h0, hq => by
    unfold wpStill
    unfold runL at h
    split
    · rename_i hw
      rw [if_pos hw] at h
      unfold Oper.still Oper.stillUpon
      split at h
      · rename_i v he; rw [reck_run _ he w]; exact ⟨rfl, wpStill_runL hT w rest h h0 hq⟩
      · rename_i he; rw [reck_run _ he w]; exact ⟨rfl, wpStill_runL hT w rest h h0 hq⟩
      · rename_i f args he
        rw [reck_run _ he w]
        split at h
        · rename_i v k hc
          cases hr : runL P T ops rest (a.put o.dst v) with
          | none => rw [hr] at h; cases h
          | some r1 =>
            rw [hr] at h
            simp only [Option.map_some, Option.some.injEq] at h
            subst h
            simp only [Nat.add_eq_zero_iff] at h0
            obtain ⟨rfl, h0⟩ := h0
            exact ⟨rfl, v, hT f args v 0 hc w, wpStill_runL hT w rest hr h0 hq⟩
        · cases h
      · exact absurd h (by simp)
    · rename_i hw
      rw [if_neg hw] at h
      exact wpStill_runL hT w rest h h0 hq

def endF (P : Program) (fn : Func) : Option (Exit × Act × Nat) → Option (Value × Nat)
  | some (.ret, a, k) | some (.normal, a, k) => if a.defers.isEmpty then (reck P (results fn a.tmps)).map fun v => (v, k) else none
  | _ => none

/-- Calls: the table's word first, else the function's own body. -/
def callT (P : Program) (T : CallT) (run : Code → Act → Option (Exit × Act × Nat)) : CallT := fun f args =>
  match T f args with
  | some r => some r
  | none =>
    match P.funcs[f]? with
    | none => none
    | some fn =>
      match fn.body with
      | none => none
      | some c => endF P fn (run c { tmps := args ++ Array.replicate (fn.ntmps - args.size) undef, defers := [] })

def runC (P : Program) (T : CallT) : Nat → Code → Act → Option (Exit × Act × Nat)
  | 0, _, _ => none
  | n + 1, c, a =>
    match c with
    | .skip => some (.normal, a, 0)
    | .label _ => some (.normal, a, 0)
    | .ret => some (.ret, a, 0)
    | .exit id => some (.exit id, a, 0)
    | .region _ ops draw =>
      match runL P (callT P T (runC P T n)) ops ops.toList a with
      | some (a', k) => if draw then (if Region.lexB .any ops && k == 0 then some (.normal, a', 1) else none) else some (.normal, a', k)
      | none => none
    | .seq x y =>
      match runC P T n x a with
      | some (.normal, a1, k) => (runC P T n y a1).map fun r => (r.1, r.2.1, k + r.2.2)
      | r => r
    | .cond c x y =>
      match a.eval c with
      | .bool true => runC P T n x a
      | .bool false => runC P T n y a
      | _ => none
    | .block id b =>
      match runC P T n b a with
      | some (.exit i, a1, k) => if i = id then some (.normal, a1, k) else some (.exit i, a1, k)
      | r => r
    | .loop b =>
      match runC P T n b a with
      | some (.normal, a1, k) => (runC P T n (.loop b) a1).map fun r => (r.1, r.2.1, k + r.2.2)
      | r => r
    | _ => none

theorem callT_ok {P : Program} {T : CallT} (hT : T.ok P) {run : Code → Act → Option (Exit × Act × Nat)}
    (h : ∀ (c : Code) (Q : Exit → Act → World → Prop) (a : Act) (w : World) (r : Exit × Act × Nat), run c a = some r → Q r.1 r.2.1 (w.drewN r.2.2) → c.wp P Q a w) : (callT P T run).ok P := by
  intro f args v k hc w
  unfold callT at hc
  split at hc
  · rename_i r hr
    cases hc
    exact hT f args v k hr w
  · split at hc
    · cases hc
    · rename_i fn hf
      split at hc
      · cases hc
      · rename_i c hb
        refine calls_of_wp hf hb ?_
        cases hr : run c { tmps := args ++ Array.replicate (fn.ntmps - args.size) undef, defers := [] } with
        | none => rw [hr] at hc; cases hc
        | some r =>
          obtain ⟨e, a, k'⟩ := r
          refine h c _ _ w _ hr ?_
          rw [hr] at hc
          have key : (if a.defers.isEmpty then (reck P (results fn a.tmps)).map fun v => (v, k') else none) = some (v, k) →
              a.defers = [] ∧ ∃ v0, (results fn a.tmps).run P (w.drewN k') = .ok v0 (w.drewN k') ∧ (Ending.returned v0 = .returned v ∧ w.drewN k' = w.drewN k) := by
            intro hres
            split at hres
            · rename_i hd
              cases hv : reck P (results fn a.tmps) with
              | none => rw [hv] at hres; cases hres
              | some v1 =>
                rw [hv] at hres
                simp only [Option.map_some, Option.some.injEq, Prod.mk.injEq] at hres
                obtain ⟨rfl, rfl⟩ := hres
                exact ⟨by simpa using hd, v1, reck_run _ hv _, rfl, rfl⟩
            · cases hres
          cases e with
          | ret => exact key hc
          | normal => exact key hc
          | _ => simp [endF] at hc

theorem runC_wp {P : Program} {T : CallT} (hT : T.ok P) (hm : P.follows .mixedOrders = true) : ∀ (n : Nat),
    (∀ (c : Code) (Q : Exit → Act → World → Prop) (a : Act) (w : World) (r : Exit × Act × Nat), runC P T n c a = some r → Q r.1 r.2.1 (w.drewN r.2.2) → c.wp P Q a w) ∧
    (∀ (b : Code) (Q : Exit → Act → World → Prop) (a : Act) (w : World) (r : Exit × Act × Nat), runC P T n (.loop b) a = some r → Q r.1 r.2.1 (w.drewN r.2.2) → ∃ m, Code.rounds P b Q m a w)
  | 0 => ⟨fun c Q a w r h => by simp [runC] at h, fun b Q a w r h => by simp [runC] at h⟩
  | n + 1 => by
    obtain ⟨ih, ihl⟩ := runC_wp hT hm n
    have hloop : ∀ (b : Code) (Q : Exit → Act → World → Prop) (a : Act) (w : World) (r : Exit × Act × Nat), runC P T (n + 1) (.loop b) a = some r → Q r.1 r.2.1 (w.drewN r.2.2) → ∃ m, Code.rounds P b Q m a w := by
      intro b Q a w r h hq
      simp only [runC] at h
      split at h
      · rename_i a1 k hb
        cases hr : runC P T n (.loop b) a1 with
        | none => rw [hr] at h; cases h
        | some r1 =>
          rw [hr] at h
          simp only [Option.map_some, Option.some.injEq] at h
          subst h
          obtain ⟨m, hmr⟩ := ihl b Q a1 (w.drewN k) r1 hr (by rw [World.drewN_drewN]; exact hq)
          exact ⟨m + 1, ih b _ a w _ hb hmr⟩
      · rename_i r1 hne
        refine ⟨1, ih b _ a w _ h ?_⟩
        obtain ⟨e, a1, k⟩ := r
        cases e with
        | normal => exact absurd h (hne _ _)
        | _ => exact hq
    refine ⟨fun c Q a w r h hq => ?_, hloop⟩
    cases c with
    | skip => simp only [runC, Option.some.injEq] at h; subst h; exact wp_skip hq
    | label l => simp only [runC, Option.some.injEq] at h; subst h; exact wp_label hq
    | ret => simp only [runC, Option.some.injEq] at h; subst h; exact wp_ret hq
    | exit id => simp only [runC, Option.some.injEq] at h; subst h; exact wp_exit hq
    | region id ops draw =>
      simp only [runC] at h
      have hT' := callT_ok hT ih
      split at h
      · rename_i a' k hr
        split at h
        · rename_i hd
          subst hd
          split at h
          · rename_i hl
            simp only [Bool.and_eq_true, beq_iff_eq] at hl
            simp only [Option.some.injEq] at h
            subst h
            exact wp_region_still hm hl.1 (wpStill_runL hT' _ _ hr hl.2 hq)
          · cases h
        · rename_i hd
          have : draw = false := by simpa using hd
          subst this
          simp only [Option.some.injEq] at h
          subst h
          exact wp_region_list (wpList_runL hT' _ _ hr hq)
      · cases h
    | seq x y =>
      simp only [runC] at h
      split at h
      · rename_i a1 k hx
        cases hr : runC P T n y a1 with
        | none => rw [hr] at h; cases h
        | some r1 =>
          rw [hr] at h
          simp only [Option.map_some, Option.some.injEq] at h
          subst h
          exact wp_seq (ih x _ a w _ hx (ih y Q a1 (w.drewN k) r1 hr (by rw [World.drewN_drewN]; exact hq)))
      · rename_i r1 hne
        obtain ⟨e, a1, k⟩ := r
        refine wp_seq (ih x _ a w _ h ?_)
        cases e with
        | normal => exact absurd h (hne _ _)
        | _ => exact hq
    | cond cc x y =>
      simp only [runC] at h
      split at h
      · rename_i hc; exact wp_cond_true hc (ih x Q a w r h hq)
      · rename_i hc; exact wp_cond_false hc (ih y Q a w r h hq)
      · cases h
    | block id b =>
      simp only [runC] at h
      split at h
      · rename_i i a1 k hb
        refine wp_block (ih b _ a w _ hb ?_)
        split at h
        · rename_i hi
          simp only [Option.some.injEq] at h
          subst h
          simp only [Exit.inBlock, hi, if_true]; exact hq
        · rename_i hi
          simp only [Option.some.injEq] at h
          subst h
          simp only [Exit.inBlock, hi, if_false]; exact hq
      · rename_i r1 hne
        obtain ⟨e, a1, k⟩ := r
        refine wp_block (ih b _ a w _ h ?_)
        cases e with
        | exit i => exact absurd h (hne _ _ _)
        | _ => exact hq
    | loop b =>
      obtain ⟨m, hmr⟩ := hloop b Q a w r h hq
      exact wp_loop_rounds m hmr
    | _ => simp [runC] at h

/-- A function that computes by itself: what it hands back is a closed fact. -/
theorem run_calls {P : Program} {T : CallT} (hT : T.ok P) (hm : P.follows .mixedOrders = true) {f : FuncId} (n : Nat) {args : Array Value} {v : Value} {k : Nat}
    (h : callT P T (runC P T n) f args = some (v, k)) (w : World) : Calls P f args w fun e w' => e = .returned v ∧ w' = w.drewN k :=
  callT_ok hT (runC_wp hT hm n).1 f args v k h w

def noT : CallT := fun _ _ => none
theorem noT_ok (P : Program) : noT.ok P := fun _ _ _ _ h => by cases h

end Go.Proofs.YtkelpkpbkebphaaDoor
