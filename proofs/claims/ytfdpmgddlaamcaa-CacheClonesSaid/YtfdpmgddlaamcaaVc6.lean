/- THE ENGINE, part 6: a round of a range over a function. Own work. -/
import Derived.Test.YtfdpmgddlaamcaaVc3
namespace Go.Proofs.YtfdpmgddlaamcaaV
open Go
set_option linter.unusedVariables false
/-! ### Words for the prints -/
def codeAt : List Nat → Code → Code
  | [], c => c
  | i :: p, c => match c, i with
    | .seq x _, 0 => codeAt p x
    | .seq _ y, _ => codeAt p y
    | .cond _ x _, 0 => codeAt p x
    | .cond _ _ y, _ => codeAt p y
    | .block _ c, _ => codeAt p c
    | .loop c, _ => codeAt p c
    | .scope c, _ => codeAt p c
    | c, _ => c
def asOf : Code → Code
  | .rangeFunc _ _ x _ => x
  | c => c
def bdOf : Code → Code
  | .rangeFunc _ _ _ x => x
  | c => c
/-- A round begins. -/
def C.begin (l : Nat) (w : World) (F : World → Prop) : Prop := ∃ r, w.heap[l]? = some (.loop r) ∧ r.state = .ready ∧ F (w.putObj l (.loop { r with state := .busy }))
/-- A round ends. -/
def C.endr (l : Nat) (pend : Option Code) (b : Bool) (st : LoopState) (w : World) (K : VK) : Prop := ∃ r, w.heap[l]? = some (.loop r) ∧ K (.bool b) (w.putObj l (.loop { r with state := st, pending := pend }))
/-- What a range over a function has left. -/
def C.left (j : Option Code) (a b : Prop) (f : Nat → Prop) : Prop := match j with
  | none => a
  | some .ret => b
  | some (.exit id) => f id
  | _ => False
/-- The block for the rounds' deferred calls is shut. -/
def C.leave (v : Value) (w : World) (F : World → Prop) : Prop := match v with
  | .int _ D => w.heap[D.toNat]? = some (.deferred (some [])) ∧ F (w.putObj D.toNat (.deferred none))
  | _ => False
/-- How a round ends. -/
def roundQ (l : Nat) (K : VK) : QE := fun e _ w => match e with
  | .normal => ∃ r, w.heap[l]? = some (.loop r) ∧ K (.bool true) (w.putObj l (.loop { r with state := .ready, pending := none }))
  | .ret => ∃ r, w.heap[l]? = some (.loop r) ∧ K (.bool false) (w.putObj l (.loop { r with state := .done, pending := some .ret }))
  | .exit id => ∃ r, w.heap[l]? = some (.loop r) ∧ K (.bool false) (w.putObj l (.loop { r with state := .done, pending := some (.exit id) }))
  | _ => False
def beginQ (A : Ann) (P : Program) (n l : Nat) (bd : Code) (K : VK) : QE := fun e env w => match e with
  | .normal => ∃ r, w.heap[l]? = some (.loop r) ∧ r.state = .ready ∧ vcCode A P n bd (roundQ l K) env (w.putObj l (.loop { r with state := .busy }))
  | _ => False
def vcRound (A : Ann) (P : Program) (n l : Nat) (as bd : Code) (env : Env) (w : World) (K : VK) : Prop :=
  vcCode A P n as (beginQ A P n l bd K) env w
/-- The parameters of a round, put. -/
def putPs : List (Nat × Value) → Env → Env
  | [], env => env
  | (t, v) :: r, env => putPs r ((t, v) :: env)
theorem Ext.putPs {n : Nat} : ∀ (l : List (Nat × Value)) (env : Env) (a : Act), (∀ x ∈ l, x.1 < n ∧ x.1 ≠ mkT) → Ext n env a →
    Ext n (putPs l env) { a with tmps := l.foldl (fun tmps x => tmps.setIfInBounds x.1 x.2) a.tmps }
  | [], env, a, _, h => h
  | (t, v) :: r, env, a, hl, h => by
    have h0 := hl (t, v) (by simp)
    have h1 := h.put v h0.1 h0.2
    exact Ext.putPs r _ _ (fun x hx => hl x (by simp [hx])) h1
theorem yield_of {A : Ann} {P : Program} {n l : Nat} {r : Loop} {w : World} {args : Array Value} {env : Env} {K : VK} (hA : A.rd = some l) (hr : w.heap[l]? = some (.loop r)) (hn : r.tmps.size = n) (hps : args.size = r.params.size)
    (henv : ∀ t v, lkT env t = some v → r.tmps[t]? = some v) (hmk : lk env mkT = none) (hp : ∀ t ∈ r.params.toList, t < n ∧ t ≠ mkT)
    (h : vcRound A P n l r.assign r.body (putPs (r.params.toList.zip args.toList) env) w K) : C.yield P l args w K := by
  refine ⟨_, _, _, _, run_yield hr hps, ?_⟩
  have h0 : Ext n env { tmps := r.tmps, defers := [] } := ⟨by simp [marks, hmk], hn, henv⟩
  have h1 := Ext.putPs (r.params.toList.zip args.toList) env _ (fun x hx => hp x.1 (List.of_mem_zip hx).1) h0
  have e : (r.params.zip args).foldl (fun tmps (x : Nat × Value) => tmps.setIfInBounds x.1 x.2) r.tmps = (r.params.toList.zip args.toList).foldl (fun tmps x => tmps.setIfInBounds x.1 x.2) r.tmps := by
    rw [← Array.foldl_toList, Array.toList_zip]
  have hs := vcCode_sound r.assign _ _ _ w h1 h
  rw [hA] at hs
  refine roundIn_of_wpIn (F := Fence.wide) (n := 0) trivial ?_
  rw [show ((r.params.zip args).foldl (fun tmps (x : Nat × Value) => match x with | (t, a) => tmps.setIfInBounds t a) r.tmps) = (r.params.zip args).foldl (fun tmps (x : Nat × Value) => tmps.setIfInBounds x.1 x.2) r.tmps from rfl, e]
  refine wpIn_mono hs fun e a w hq => ?_
  cases e with
  | normal =>
    obtain ⟨env', he', r', hr', hst, hq⟩ := hq
    refine ⟨_, run_beginRound hr' hst, ?_⟩
    have hs := vcCode_sound r.body _ _ _ _ he' hq
    rw [hA] at hs
    refine wpIn_mono hs fun e a w hq => ?_
    cases e with
    | normal => obtain ⟨_, _, r2, hr2, hk⟩ := hq; exact ⟨_, _, run_endRound none hr2, _, rfl, hk⟩
    | ret => obtain ⟨_, _, r2, hr2, hk⟩ := hq; exact ⟨_, _, run_endRound (some .ret) hr2, _, rfl, hk⟩
    | exit id => obtain ⟨_, _, r2, hr2, hk⟩ := hq; exact ⟨_, _, run_endRound (some (.exit id)) hr2, _, rfl, hk⟩
    | goto l => obtain ⟨_, _, hq⟩ := hq; exact hq.elim
    | panic c => exact hq.elim
    | outgrown => exact hq.elim
  | ret => obtain ⟨_, _, hq⟩ := hq; exact hq.elim
  | exit id => obtain ⟨_, _, hq⟩ := hq; exact hq.elim
  | goto l => obtain ⟨_, _, hq⟩ := hq; exact hq.elim
  | panic c => exact hq.elim
  | outgrown => exact hq.elim
end Go.Proofs.YtfdpmgddlaamcaaV
