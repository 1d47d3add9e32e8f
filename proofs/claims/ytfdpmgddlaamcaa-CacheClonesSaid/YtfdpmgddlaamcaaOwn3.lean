/- THE ENGINE, part 11: make and copy. Own work. -/
import Derived.Test.YtfdpmgddlaamcaaOwn2
import Derived.Laws.OwnMore
import Derived.Laws.CopyRow
import Derived.Laws.IdiomCopy
namespace Go.Proofs.YtfdpmgddlaamcaaV
open Go Go.RowKit
set_option linter.unusedVariables false
set_option linter.unusedSimpArgs false
def NewS (w : World) (v : Value) : Prop := ∀ g, v.ownBlock = some g → w.heap.size ≤ g
theorem NewS.mono {w w' : World} {v : Value} (h : NewS w' v) (hf : w.heap.size ≤ w'.heap.size) : NewS w v := fun g hg => Nat.le_trans hf (h g hg)
theorem NewS.nil (w : World) : NewS w (.slice none 0 0) := fun g hg => by simp [Value.ownBlock] at hg
theorem NewS.blk {w : World} {v : Value} (h : NewS w v) : ∀ g ∈ blkS v, w.heap.size ≤ g := fun g hg => h g (mem_blkS.1 hg)
theorem madeCells_eq {c : Array Value} {sz : Nat} (hc : c.size = sz) (h0 : 0 < sz) (n : Nat) : (madeCells c (n * sz)).toList = (List.replicate n c.toList).flatten := by
  have hl : ∀ x ∈ List.replicate n c.toList, x.length = sz := fun x hx => by rw [List.eq_of_mem_replicate hx]; simpa using hc
  apply List.ext_getElem?
  intro k
  by_cases hk : k < n * sz
  · have hdiv : k / sz < n := Nat.div_lt_of_lt_mul (by rwa [Nat.mul_comm])
    have hmod : k % sz < sz := Nat.mod_lt _ h0
    have e2 := flatten_get _ hl (k / sz) c.toList (by rw [List.getElem?_replicate, if_pos hdiv]) (k % sz) hmod
    have hk' : k / sz * sz + k % sz = k := by rw [Nat.mul_comm]; exact Nat.div_add_mod k sz
    rw [hk'] at e2
    rw [e2]
    unfold madeCells
    simp [hk, hc]
    rw [Array.getElem?_eq_getElem (by omega), getElem!_pos c _ (by omega)]
  · rw [List.getElem?_eq_none (by unfold madeCells; simp; omega), List.getElem?_eq_none (by rw [flatten_len _ hl]; simp; omega)]
section
variable {P : Program} {K : VK} {w : World}
theorem OwnS.mem_lt {w : World} {v : Value} {e : TypeId} {sz : Nat} {xs : List (List Value)} (h : OwnS w v e sz xs) : ∀ g ∈ blkS v, g < w.heap.size := fun g hg => h.lt (mem_blkS.1 hg)
theorem OwnS.keep' {S : List Nat} {w w' : World} {v : Value} {e : TypeId} {sz : Nat} {xs : List (List Value)} (h : OwnS w v e sz xs) (hf : Fr S w w') (hS : ∀ g ∈ blkS v, g ∉ S) : OwnS w' v e sz xs := h.keep hf fun g hg => hS g (mem_blkS.2 hg)
theorem OwnS.cap {v : Value} {e : TypeId} {sz : Nat} {xs : List (List Value)} (h : OwnS w v e sz xs) : ∃ A c, v = .slice A xs.length c ∧ xs.length ≤ c ∧ (A = none → xs = []) := by
  obtain ⟨⟨_, h⟩, _⟩ := h
  rcases h with ⟨rfl, h⟩ | ⟨g, cap, cur, rfl, _, _, h1, _⟩
  · exact ⟨none, 0, by rw [h], by omega, fun _ => List.eq_nil_of_length_eq_zero h⟩
  · exact ⟨_, cap, rfl, h1, fun h => by cases h⟩
theorem OwnS.one {v : Value} {e : TypeId} {sz : Nat} {xs : List (List Value)} (h : OwnS w v e sz xs) : v.oneCell' = true ∧ v.cells = #[v] := by
  obtain ⟨A, c, rfl⟩ := h.len
  exact ⟨rfl, rfl⟩
theorem OwnS.take {A : Option Addr} {n c sz : Nat} {e : TypeId} {xs : List (List Value)} (h : OwnS w (.slice A n c) e sz xs) (m : Nat) (hm : m ≤ n) (hA : A = none → m = 0) : OwnS w (.slice A m c) e sz (xs.take m) := by
  obtain ⟨⟨h1, h2⟩, h3⟩ := h
  have h3' : ∀ x ∈ xs.take m, x.length = sz ∧ ∀ u ∈ x, u.oneCell' = true := fun x hx => h3 x (List.mem_of_mem_take hx)
  rcases h2 with ⟨he, hn⟩ | ⟨g, cap, cur, he, hb, hh, r1, r2, r3, r4⟩
  · simp only [Value.slice.injEq] at he
    obtain ⟨rfl, rfl, rfl⟩ := he
    have : m = 0 := by omega
    subst this
    simp only [List.take_zero]
    exact OwnS.nil w e sz
  · simp only [Value.slice.injEq] at he
    obtain ⟨rfl, rfl, rfl⟩ := he
    have hl : (xs.take m).length = m := by rw [List.length_take]; omega
    have := OwnS.of_block (w := w) (g := g) (n := m) (c := c) (sz := sz) (e := e) (cs := cur) (xs := xs.take m) hh hl.symm (by omega) (by unfold maxLen at r2; omega) r3 h3' ?_
    · exact this
    · have e1 : cur.toList.take (m * sz) = (cur.toList.take (xs.length * sz)).take (m * sz) := by rw [List.take_take, Nat.min_eq_left (Nat.mul_le_mul_right _ hm)]
      rw [e1, r4]
      have hlen : ∀ x ∈ xs, x.length = sz := fun x hx => (h3 x hx).1
      have : xs.flatten = (xs.take m).flatten ++ (xs.drop m).flatten := by rw [← List.flatten_append, List.take_append_drop]
      rw [this, List.take_left' (by rw [flatten_len _ fun x hx => hlen x (List.mem_of_mem_take hx), hl])]
/-- make(t, n) -/
theorem C.make_of {t e : TypeId} {sz bytes : Nat} {z : Value} {k k' : IntKind} (n : Nat) (ht : P.underlying t = some (.slice e)) (hinfo : (P.info? e).map (fun i => (i.zero, i.size, i.bytes)) = some (some z, sz, bytes)) (hz : z.cells.size = sz) (hsz : 0 < sz)
    (h1 : ∀ u ∈ z.cells.toList, u.oneCell' = true) (hb : bytes * n ≤ 281474976710656) (hm : n ≤ 9223372036854775807)
    (hk : ∀ g w', New w g (.cells (madeCells z.cells (n * sz)) e) w' → OwnS w' (.slice (some ⟨g, 0, none⟩) n n) e sz (List.replicate n z.cells.toList) → K (.slice (some ⟨g, 0, none⟩) n n) w') : C.run P (Instr.makeSlice t (.int k (n : Int)) (.int k' (n : Int))) w K := by
  obtain ⟨i0, hi, hzz⟩ := Option.map_eq_some_iff.1 hinfo
  simp only [Prod.mk.injEq] at hzz
  obtain ⟨hz0, hz1, hz2⟩ := hzz
  have hr := run_make (P := P) w t e i0 z ht hi hz0 k k' (n : Int) (n : Int) (by omega) (Int.le_refl _) (by rw [hz2, ← Int.natCast_mul]; omega) (by omega)
  simp only [Int.toNat_natCast, hz1] at hr
  have hn := New.mk' w (.cells (madeCells z.cells (n * sz)) e)
  refine C.run_of hr (hk _ _ hn (OwnS.of_block hn.at_ (by simp) (Nat.le_refl _) (by omega) (by unfold madeCells; simp) (fun x hx => ?_) ?_))
  · rw [List.eq_of_mem_replicate hx]
    exact ⟨by simpa using hz, h1⟩
  · rw [madeCells_eq hz hsz, List.take_of_length_le]
    rw [flatten_len (sz := sz) _ fun x hx => by rw [List.eq_of_mem_replicate hx]; simpa using hz]
    simp
theorem upd_setRow {g : Nat} {e : TypeId} {cs cs' : Array Value} (h : w.heap[g]? = some (.cells cs e (0, 0))) : Upd w g (.cells cs' e (0, 0)) (w.setRow g cs') := by
  refine ⟨⟨rfl, rfl, rfl, by simp [World.setRow], fun b _ hb => ?_⟩, setRow_heap w g cs cs' e _ h, by simp [World.setRow]⟩
  simp only [List.mem_singleton] at hb
  simp [World.setRow, Array.getElem?_modify, Ne.symm hb]
end
end Go.Proofs.YtfdpmgddlaamcaaV
