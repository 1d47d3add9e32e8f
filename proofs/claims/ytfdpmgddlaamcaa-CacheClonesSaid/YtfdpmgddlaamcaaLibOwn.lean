/- Own slices of unlike elements lie in unlike blocks. Own work. -/
import Derived.Test.YtfdpmgddlaamcaaOwn3
namespace Go.Proofs.YtfdpmgddlaamcaaV
open Go Go.RowKit
set_option linter.unusedVariables false
set_option linter.unusedSimpArgs false
theorem OwnS.ne {w : World} {v v' : Value} {e e' : TypeId} {sz sz' : Nat} {xs ys : List (List Value)} (h : OwnS w v e sz xs) (h' : OwnS w v' e' sz' ys) (he : e ≠ e') : ∀ g ∈ blkS v, g ∉ blkS v' := by
  intro g hg hg'
  rw [mem_blkS] at hg hg'
  obtain ⟨⟨_, h3⟩, _⟩ := h
  obtain ⟨⟨_, h3'⟩, _⟩ := h'
  rcases h3 with ⟨rfl, _⟩ | ⟨k, cap, cur, rfl, _, hh, _⟩
  · simp [Value.ownBlock] at hg
  · rcases h3' with ⟨rfl, _⟩ | ⟨k', cap', cur', rfl, _, hh', _⟩
    · simp [Value.ownBlock] at hg'
    · simp only [Value.ownBlock, Option.some.injEq] at hg hg'
      rw [hg] at hh
      rw [hg', hh] at hh'
      simp only [Option.some.injEq, Obj.cells.injEq] at hh'
      exact he hh'.2.1
theorem OwnS.nb {w : World} {v : Value} {e : TypeId} {sz : Nat} {xs : List (List Value)} {g : Nat} {cs : Array Value} {e' : TypeId} {fz : Nat × Nat} (h : OwnS w v e sz xs) (hg : w.heap[g]? = some (.cells cs e' fz)) (he : e ≠ e') : g ∉ blkS v := by
  intro hg'
  rw [mem_blkS] at hg'
  obtain ⟨⟨_, h3⟩, _⟩ := h
  rcases h3 with ⟨rfl, _⟩ | ⟨k, cap, cur, rfl, _, hh, _⟩
  · simp [Value.ownBlock] at hg'
  · simp only [Value.ownBlock, Option.some.injEq] at hg'
    rw [hg', hg] at hh
    simp only [Option.some.injEq, Obj.cells.injEq] at hh
    exact he hh.2.1.symm
end Go.Proofs.YtfdpmgddlaamcaaV
