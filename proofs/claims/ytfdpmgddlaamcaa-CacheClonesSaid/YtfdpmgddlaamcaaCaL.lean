/- Lists of numbers of the call's own; what a loop's record holds. -/
import Derived.Test.YtfdpmgddlaamcaaLib1
import Derived.Test.YtfdpmgddlaamcaaLibApp
import Derived.Test.YtfdpmgddlaamcaaLibOwn
namespace Go.Proofs.YtfdpmgddlaamcaaV
open Go Go.Proofs Go.RowKit
set_option linter.unusedVariables false
set_option linter.unusedSimpArgs false
set_option maxRecDepth 10000
theorem upd_put {w : World} {l : Nat} {o o' : Obj} (h : w.heap[l]? = some o') : Upd w l o (w.putObj l o) := by
  have hl := lt_of_at h
  refine ⟨⟨rfl, rfl, rfl, by simp [World.putObj], fun b hb hS => ?_⟩, ?_, by simp [World.putObj]⟩
  · simp only [List.mem_singleton] at hS
    simp [World.putObj, Array.getElem?_setIfInBounds, Ne.symm hS]
  · simp [World.putObj, Array.getElem?_setIfInBounds, hl]
theorem lk_mem : ∀ {env : Env} {t : Nat} {v : Value}, lk env t = some v → (t, v) ∈ env
  | [], t, v, h => by simp [lk] at h
  | (s, u) :: env, t, v, h => by
    simp only [lk] at h
    cases hb : Nat.beq s t with
    | true =>
      rw [hb] at h
      simp only [cond_true, Option.some.injEq] at h
      rw [Nat.eq_of_beq_eq_true hb] at *
      rw [h]; simp
    | false =>
      rw [hb] at h
      simp only [cond_false] at h
      exact List.mem_cons_of_mem _ (lk_mem h)
theorem env_of {tmps : Array Value} {env : Env} (h : ∀ x ∈ env, tmps[x.1]? = some x.2) : ∀ t v, lkT env t = some v → tmps[t]? = some v := fun t v ht => h (t, v) (lk_mem (lkT_some ht).2)
section
variable {K : VK} {w : World}
theorem bsI (a : Int) : (Instr.buildSlice 34 1 #[(0, .int .i64 a)]).run Try.prog w = .ok (.slice (some ⟨w.heap.size, 0, none⟩) 1 1) (w.alloc (.cells #[.int .i64 a] 3)) := by kernel_rfl
theorem intC_one {l : List Int} : ∀ y ∈ intC l, ∀ u ∈ y, u.oneCell' = true := by
  intro y hy u hu
  simp only [intC, List.mem_map] at hy
  obtain ⟨x, _, rfl⟩ := hy
  simp only [List.mem_cons, List.not_mem_nil, or_false] at hu
  subst hu
  rfl
theorem C.appI {W0 : World} {v : Value} {l : List Int} {n : Int} (hf : Fr [] W0 w) (hn : NewS W0 v) (hv : OwnS w v 3 1 (intC l)) (hl : l.length ≤ 17592186044415)
    (hk : ∀ v' w', Fr [] W0 w' → NewS W0 v' → OwnS w' v' 3 1 (intC (l ++ [n])) → Fr (blkS v) w w' → (∀ g ∈ blkS v', g ∈ blkS v ∨ w.heap.size ≤ g) → K v' w') :
    C.run Try.prog (Instr.buildSlice 34 1 #[(0, .int .i64 n)]) w fun x w1 => C.run Try.prog (Builtin.append_ #[34, 34] 34 #[v, x]) w1 K :=
  C.app1 (x := [.int .i64 n]) (e := 3) (sz := 1) (bytes := 8) (z := .int .i64 0) Try.underlying34 (by kernel_rfl) rfl (by decide) (bsI n) rfl (by simp [Value.oneCell']) hf hn hv (by rw [intC_len]; omega) (by rw [intC_len]; omega) fun v' w' a b c d e => hk v' w' a b (by rw [intC_app]; exact c) d e
/-- A world without memory: nothing is asked of what went ahead. -/
def bare (w : World) : World := { w with heap := #[] }
theorem fr_bare (w : World) : Fr [] (bare w) w := ⟨rfl, rfl, rfl, by simp [bare], fun i hi => by simp [bare] at hi⟩
theorem new_bare (w : World) (v : Value) : NewS (bare w) v := fun g _ => by simp [bare]
theorem C.appI' {v : Value} {l : List Int} {n : Int} (hv : OwnS w v 3 1 (intC l)) (hl : l.length ≤ 17592186044415)
    (hk : ∀ v' w', OwnS w' v' 3 1 (intC (l ++ [n])) → Fr (blkS v) w w' → (∀ g ∈ blkS v', g ∈ blkS v ∨ w.heap.size ≤ g) → K v' w') :
    C.run Try.prog (Instr.buildSlice 34 1 #[(0, .int .i64 n)]) w fun x w1 => C.run Try.prog (Builtin.append_ #[34, 34] 34 #[v, x]) w1 K :=
  C.appI (fr_bare w) (new_bare w v) hv hl fun v' w' _ _ a b c => hk v' w' a b c
end
theorem new_app {W0 w : World} {v v' : Value} (h : NewS W0 v) (hs : W0.heap.size ≤ w.heap.size) (hg : ∀ g ∈ blkS v', g ∈ blkS v ∨ w.heap.size ≤ g) : NewS W0 v' := fun g hx => by
  rcases hg g (mem_blkS.2 hx) with c | c
  · exact h.blk g c
  · omega
/-- What is no block of cells is no own slice's. -/
theorem OwnS.no {w : World} {v : Value} {e : TypeId} {sz : Nat} {xs : List (List Value)} {b : Nat} {o : Obj} (h : OwnS w v e sz xs) (hb : w.heap[b]? = some o) (hne : ∀ cs e' fz, o ≠ .cells cs e' fz) : b ∉ blkS v := fun hg => by
  obtain ⟨⟨_, hx⟩, _⟩ := h
  rcases hx with ⟨e, _⟩ | ⟨k, cap, cur, e, _, hh, _⟩
  · rw [e] at hg; simp [blkS, Value.ownBlock] at hg
  · rw [e] at hg
    simp [blkS, Value.ownBlock] at hg
    subst hg
    rw [hb] at hh
    exact hne _ _ _ (Option.some.inj hh)
end Go.Proofs.YtfdpmgddlaamcaaV
