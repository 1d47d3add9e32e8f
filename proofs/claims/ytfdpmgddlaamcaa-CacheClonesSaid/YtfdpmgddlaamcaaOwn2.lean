/- THE ENGINE, part 10: an element of an own slice, stored. Own work. -/
import Derived.Test.YtfdpmgddlaamcaaOwn
namespace Go.Proofs.YtfdpmgddlaamcaaV
open Go Go.RowKit
set_option linter.unusedVariables false
set_option linter.unusedSimpArgs false
theorem setAt_append {T R y : List Value} {o : Nat} (h : o + y.length ≤ T.length) : setAt (T ++ R) o y = setAt T o y ++ R := by
  unfold setAt
  rw [List.take_append_of_le_length (by omega), List.drop_append_of_le_length (by omega)]
  simp
theorem setAt_length {T y : List Value} {o : Nat} (h : o + y.length ≤ T.length) : (setAt T o y).length = T.length := by
  unfold setAt
  simp
  omega
theorem flatten_set {sz : Nat} {y : List Value} (hy : y.length = sz) : ∀ (xs : List (List Value)), (∀ x ∈ xs, x.length = sz) → ∀ j, j < xs.length → (xs.set j y).flatten = setAt xs.flatten (j * sz) y
  | [], _, j, hj => by simp at hj
  | a :: xs, hl, 0, _ => by
    have ha := hl a (by simp)
    simp only [List.set_cons_zero, List.flatten_cons, Nat.zero_mul, setAt, List.take_zero, List.nil_append, Nat.zero_add]
    rw [hy, ← ha, List.drop_left]
  | a :: xs, hl, j + 1, hj => by
    have ha := hl a (by simp)
    simp only [List.length_cons, Nat.add_lt_add_iff_right] at hj
    have ih := flatten_set hy xs (fun x hx => hl x (by simp [hx])) j hj
    simp only [List.set_cons_succ, List.flatten_cons, ih]
    unfold setAt
    have e : (j + 1) * sz = a.length + j * sz := by rw [ha, Nat.add_mul]; omega
    rw [e, List.take_length_add_append, Nat.add_assoc, List.drop_length_add_append]
    simp
section
variable {P : Program} {K : World → Prop} {w : World}
/-- v[j] = x, v the call's own. -/
theorem C.storeAt_own {v x : Value} {e : TypeId} {sz : Nat} {xs : List (List Value)} {k : IntKind} {j : Int} (ho : OwnS w v e sz xs) (h0 : 0 ≤ j) (hj : j.toNat < xs.length) (hx : x.cells.size = sz) (h1 : ∀ u ∈ x.cells.toList, u.oneCell' = true)
    (hk : ∀ w', OwnS w' v e sz (xs.set j.toNat x.cells.toList) → Fr (blkS v) w w' → w'.heap.size = w.heap.size → K w') : C.idx sz v (.int k j) w fun p w1 => C.store sz p x w1 K := by
  obtain ⟨⟨h2, h3⟩, h4⟩ := ho
  rcases h3 with ⟨rfl, h3⟩ | ⟨g, cap, cur, rfl, hb, hh, h5, h6, h7, h8⟩
  · omega
  · simp only [C.idx_mk]
    have hle : (j.toNat + 1) * sz ≤ cap * sz := Nat.mul_le_mul_right _ (by omega)
    have hle2 : (j.toNat + 1) * sz ≤ xs.length * sz := Nat.mul_le_mul_right _ hj
    have hle3 : xs.length * sz ≤ cap * sz := Nat.mul_le_mul_right _ h5
    rw [Nat.add_mul] at hle hle2
    refine ⟨⟨h0, by omega⟩, C.store_of hh hx h1 (by omega) fun w' hu => hk w' ?_ (hu.fr.mono (by simp [blkS, Value.ownBlock])) hu.sz⟩
    have hxl : x.cells.toList.length = sz := by simpa using hx
    rw [Nat.zero_add] at hu
    have hsz : (setAt cur.toList (j.toNat * sz) x.cells.toList).length = cur.toList.length := setAt_length (by rw [hxl]; simp; omega)
    have ht : (cur.toList.take (xs.length * sz)).length = xs.length * sz := List.length_take_of_le (by simp; omega)
    refine OwnS.of_block (n := xs.length) hu.at_ (by simp) h5 (by unfold maxLen at h6; omega) (by rw [List.size_toArray, hsz]; simpa using h7) (fun y hy => ?_) ?_
    · rcases List.mem_or_eq_of_mem_set hy with hy | rfl
      · exact h4 y hy
      · exact ⟨hxl, h1⟩
    · rw [flatten_set hxl xs (fun y hy => (h4 y hy).1) _ hj, ← h8]
      show (setAt cur.toList (j.toNat * sz) x.cells.toList).take (xs.length * sz) = setAt (cur.toList.take (xs.length * sz)) (j.toNat * sz) x.cells.toList
      generalize hT : cur.toList.take (xs.length * sz) = T at *
      have hc : cur.toList = T ++ cur.toList.drop (xs.length * sz) := by rw [← hT]; exact (List.take_append_drop _ _).symm
      rw [hc, setAt_append (by rw [hxl, ht]; omega)]
      exact List.take_left' (by rw [setAt_length (by rw [hxl, ht]; omega), ht])
end
end Go.Proofs.YtfdpmgddlaamcaaV
