/- WordMakes: a number, and a reference, is made, if it may be; else nothing is. For every pair of integers that are int64 and int values, no other condition. -/
import Derived.Test.YtckageghbhkklaaPWordMakesx3
namespace Go.Proofs.Ytckageghbhkklaa.Pure
open Go.RowKit Go.Proofs.Ytckageghbhkklaa.PWordMakes Go.Proofs.YtckageghbhkklaaW.PrintWords Go.Proofs.YtckageghbhkklaaW.PrintLast

theorem WordMakes.alive : scutagelaw03_alive.f = some true := by decide +kernel

theorem WordMakes.num (n : Int) : word_Number.f n = some (if -1099511627776 ≤ n ∧ n < 1099511627776 then (1, n) else (0, 0)) := by
  unfold word_Number.f word_may.f word_Check.f
  by_cases h : -1099511627776 ≤ n
  · by_cases h2 : n < 1099511627776
    · simp [h, h2]
    · simp [h, h2]
  · simp [h]

theorem WordMakes.ref (n : Int) : word_Reference.f n = some (if 0 ≤ n ∧ n < 2048 then (2, n) else (0, 0)) := by
  unfold word_Reference.f word_may.f word_Check.f
  by_cases h : 0 ≤ n
  · by_cases h2 : n < 2048
    · simp [h, h2]
    · simp [h, h2]
  · simp [h]

theorem WordMakes.chk1 (n : Int) : scutageref03_Check.f 1 1 n = some (if -1099511627776 ≤ n ∧ n < 1099511627776 then 0 else 4) := by
  unfold scutageref03_Check.f scutageref03_Check.j0
  by_cases h : -1099511627776 ≤ n
  · have h' : ¬ n < -1099511627776 := by omega
    by_cases h2 : n < 1099511627776
    · have h2' : ¬ 1099511627775 < n := by omega
      simp [h, h2, h', h2']
    · have h2' : 1099511627775 < n := by omega
      simp [h2, h', h2']
  · have h' : n < -1099511627776 := by omega
    simp [h, h']

theorem WordMakes.chk2 (n : Int) : scutageref03_Check.f 1 2 n = some (if 0 ≤ n ∧ n < 2048 then 0 else 4) := by
  unfold scutageref03_Check.f scutageref03_Check.j0
  by_cases h : 0 ≤ n
  · have h' : ¬ n < 0 := by omega
    by_cases h2 : n < 2048
    · have h2' : ¬ 2047 < n := by omega
      simp [h, h2, h', h2']
    · have h2' : 2047 < n := by omega
      simp [h2, h', h2']
  · have h' : n < 0 := by omega
    simp [h, h']

theorem WordMakes : scutagelaw03_WordMakes.Pure := by
  intro a0 a1 _ _
  refine ⟨1, ?_⟩
  unfold scutagelaw03_WordMakes.f
  rw [WordMakes.alive, WordMakes.num, WordMakes.ref, WordMakes.chk1, WordMakes.chk2]
  by_cases h : -1099511627776 ≤ a0 ∧ a0 < 1099511627776 <;> by_cases h2 : 0 ≤ a1 ∧ a1 < 2048 <;> simp [h, h2]

end Go.Proofs.Ytckageghbhkklaa.Pure
