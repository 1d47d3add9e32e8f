/- The cache of pages: what a set keeps. -/
import Derived.Test.YtfdpmgddlaamcaaCa4
namespace Go.Proofs.YtfdpmgddlaamcaaV
open Go Go.Proofs Go.RowKit
set_option linter.unusedVariables false
set_option linter.unusedSimpArgs false
theorem good_nil : Good [] 0 := ⟨by simp, by simp, by simp⟩
theorem good_set {l : List ((Int × Int) × Value × Nat)} {c : Nat} {a : Int × Int} {p : Int} (hg : Good l c) (hp : ∀ x ∈ l, x.2.1 ≠ .int .i64 p) : Good (setL l a p c).1 (setL l a p c).2 := by
  unfold setL
  cases e : fnd a l 0 with
  | none =>
    refine ⟨fun x hx => ?_, ?_, fun x hx y hy he => ?_⟩
    · rcases List.mem_append.1 hx with hx | hx
      · have := hg.born x hx; simp only; omega
      · rw [List.mem_singleton.1 hx]; simp
    · simp only [List.map_append, List.map_cons, List.map_nil]
      rw [List.nodup_append]
      refine ⟨hg.once, by simp, fun x hx y hy => ?_⟩
      obtain ⟨z, hz, rfl⟩ := List.mem_map.1 hx
      have := hg.born z hz
      rw [List.mem_singleton.1 hy]
      omega
    · rcases List.mem_append.1 hx with hx | hx <;> rcases List.mem_append.1 hy with hy | hy
      · exact hg.uni x hx y hy he
      · rw [List.mem_singleton.1 hy] at he; exact absurd he (hp x hx)
      · rw [List.mem_singleton.1 hx] at he; exact absurd he.symm (hp y hy)
      · rw [List.mem_singleton.1 hx, List.mem_singleton.1 hy]
  | some jv =>
    obtain ⟨j, v⟩ := jv
    have hex : ∃ x ∈ l, x.1 = a := by
      apply Classical.byContradiction
      intro hc
      rw [fnd_none fun x hx he => hc ⟨x, hx, he⟩] at e
      cases e
    obtain ⟨j', x0, g1, g2, _, g4⟩ := fnd_at (i := 0) hex
    rw [Nat.zero_add, e] at g4
    simp only [Option.some.injEq, Prod.mk.injEq] at g4
    obtain ⟨rfl, _⟩ := g4
    have hjl : j < l.length := (List.getElem?_eq_some_iff.1 g1).1
    have hxj : l[j] = x0 := (List.getElem?_eq_some_iff.1 g1).2
    simp only [g1, Option.map_some, Option.getD_some]
    refine ⟨fun x hx => ?_, ?_, fun x hx y hy he => ?_⟩
    · rcases List.mem_or_eq_of_mem_set hx with hx | hx
      · exact hg.born x hx
      · rw [hx]; exact hg.born x0 (List.mem_of_getElem? g1)
    · rw [List.map_set]
      have : (l.map fun x => x.2.2).set j x0.2.2 = l.map fun x => x.2.2 := by
        apply List.ext_getElem
        · simp
        · intro i h1 h2
          rw [List.getElem_set]
          split
          · rename_i e; subst e; simp [hxj]
          · rfl
      rw [this]
      exact hg.once
    · rcases List.mem_or_eq_of_mem_set hx with hx | hx <;> rcases List.mem_or_eq_of_mem_set hy with hy | hy
      · exact hg.uni x hx y hy he
      · rw [hy] at he; exact absurd he (hp x hx)
      · rw [hx] at he; exact absurd he.symm (hp y hy)
      · rw [hx, hy]
end Go.Proofs.YtfdpmgddlaamcaaV
