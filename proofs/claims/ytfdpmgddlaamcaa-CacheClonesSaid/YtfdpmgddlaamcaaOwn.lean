/- THE ENGINE, part 9: slices of the call's own: append, store. Own work. -/
import Derived.Test.YtfdpmgddlaamcaaSl
import Derived.Maps.AppendAt
namespace Go.Proofs.YtfdpmgddlaamcaaV
open Go Go.RowKit
set_option linter.unusedVariables false
set_option linter.unusedSimpArgs false
/-- A slice that nobody else writes: its elements' cells. -/
def OwnS (w : World) (v : Value) (e : TypeId) (sz : Nat) (xs : List (List Value)) : Prop :=
  w.ownsRow 0 e sz v xs.length xs.flatten ∧ ∀ x ∈ xs, x.length = sz ∧ ∀ u ∈ x, u.oneCell' = true
theorem flatten_get {sz : Nat} : ∀ (xs : List (List Value)), (∀ x ∈ xs, x.length = sz) → ∀ (i : Nat) (x : List Value), xs[i]? = some x → ∀ j, j < sz → xs.flatten[i * sz + j]? = x[j]?
  | [], _, i, x, h, _, _ => by simp at h
  | y :: xs, hl, 0, x, h, j, hj => by
    simp only [List.getElem?_cons_zero, Option.some.injEq] at h
    subst h
    have := hl y (by simp)
    simp only [Nat.zero_mul, Nat.zero_add, List.flatten_cons]
    rw [List.getElem?_append_left (by omega)]
  | y :: xs, hl, i + 1, x, h, j, hj => by
    simp only [List.getElem?_cons_succ] at h
    have hy := hl y (by simp)
    have ih := flatten_get xs (fun z hz => hl z (by simp [hz])) i x h j hj
    simp only [List.flatten_cons]
    rw [List.getElem?_append_right (by rw [hy, Nat.add_mul]; omega), hy, ← ih]
    congr 1
    rw [Nat.add_mul]
    omega
theorem flatten_len {sz : Nat} : ∀ (xs : List (List Value)), (∀ x ∈ xs, x.length = sz) → xs.flatten.length = xs.length * sz
  | [], _ => by simp
  | y :: xs, hl => by
    rw [List.flatten_cons, List.length_append, hl y (by simp), flatten_len xs (fun z hz => hl z (by simp [hz])), List.length_cons, Nat.add_mul]
    omega
theorem OwnS.nil (w : World) (e : TypeId) (sz : Nat) : OwnS w (.slice none 0 0) e sz [] := ⟨⟨by simp, .inl ⟨rfl, rfl⟩⟩, by simp⟩
theorem OwnS.lt {w : World} {v : Value} {e : TypeId} {sz : Nat} {xs : List (List Value)} (h : OwnS w v e sz xs) {g : Nat} (hg : v.ownBlock = some g) : g < w.heap.size := by
  obtain ⟨⟨_, h⟩, _⟩ := h
  rcases h with ⟨rfl, _⟩ | ⟨g', cap, cur, rfl, _, hh, _⟩
  · simp [Value.ownBlock] at hg
  · simp only [Value.ownBlock, Option.some.injEq] at hg
    subst hg
    exact lt_of_at hh
theorem OwnS.keep {S : List Nat} {w w' : World} {v : Value} {e : TypeId} {sz : Nat} {xs : List (List Value)} (h : OwnS w v e sz xs) (hf : Fr S w w') (hS : ∀ g, v.ownBlock = some g → g ∉ S) : OwnS w' v e sz xs := by
  obtain ⟨⟨h1, h2⟩, h3⟩ := h
  refine ⟨⟨h1, ?_⟩, h3⟩
  rcases h2 with h2 | ⟨g, cap, cur, rfl, hb, hh, r⟩
  · exact .inl h2
  · exact .inr ⟨g, cap, cur, rfl, hb, hf.at_ hh (hS g rfl), r⟩
theorem OwnS.rd {w : World} {v : Value} {e : TypeId} {sz : Nat} {xs : List (List Value)} (h : OwnS w v e sz xs) : RdS w v sz xs := by
  obtain ⟨⟨h1, h2⟩, h3⟩ := h
  rcases h2 with ⟨rfl, h2⟩ | ⟨g, cap, cur, rfl, hb, hh, h4, h5, h6, h7⟩
  · have : xs = [] := List.eq_nil_of_length_eq_zero h2
    subst this
    exact ⟨none, 0, rfl, by simp, by simp [maxLen], fun h => absurd rfl h⟩
  · refine ⟨_, cap, rfl, h4, h5, fun _ => ⟨g, 0, cur, e, (0, 0), rfl, hh, fun i x hx => ?_⟩⟩
    have hl : ∀ x ∈ xs, x.length = sz := fun x hx => (h3 x hx).1
    have hlt : i < xs.length := (List.getElem?_eq_some_iff.1 hx).1
    refine ⟨hl x (List.mem_of_getElem? hx), fun j hj => ?_⟩
    have := flatten_get xs hl i x hx j hj
    rw [← this, ← h7, List.getElem?_take, if_pos]
    · simp
    · have : (i + 1) * sz ≤ xs.length * sz := Nat.mul_le_mul_right _ hlt
      rw [Nat.add_mul] at this
      omega
theorem OwnS.len {w : World} {v : Value} {e : TypeId} {sz : Nat} {xs : List (List Value)} (h : OwnS w v e sz xs) : ∃ A c, v = .slice A xs.length c := by
  obtain ⟨⟨_, h⟩, _⟩ := h
  rcases h with ⟨rfl, h⟩ | ⟨g, cap, cur, rfl, _⟩
  · exact ⟨none, 0, by rw [h]⟩
  · exact ⟨_, cap, rfl⟩
def blkS (v : Value) : List Nat := match v.ownBlock with | some g => [g] | none => []
theorem mem_blkS {v : Value} {x : Nat} : x ∈ blkS v ↔ v.ownBlock = some x := by
  unfold blkS
  cases v.ownBlock with
  | none => simp
  | some g => simp [eq_comm]
theorem fr_of_grownBy {w w' : World} {v : Value} (h : w.grownBy w' v.ownBlock) : Fr (blkS v) w w' :=
  ⟨h.os, h.tape, h.output, h.size, fun b hb hS => h.block b hb (fun e => hS (mem_blkS.2 e.symm))⟩
section
variable {P : Program} {K : VK} {w : World}
/-- append(v, src...), v the call's own. -/
theorem C.append_of {t ty e : TypeId} {sz bytes : Nat} {z : Value} {v src : Value} {xs ys : List (List Value)} (ht : P.underlying t = some (.slice e))
    (hinfo : (P.info? e).map (fun i => (i.zero, i.size, i.bytes)) = some (some z, sz, bytes)) (hz : z.cells.size = sz) (hsz : 0 < sz) (hv : OwnS w v e sz xs) (hs : RdS w src sz ys) (h1 : ∀ y ∈ ys, ∀ u ∈ y, u.oneCell' = true)
    (hb : (xs.length + ys.length) * bytes ≤ 140737488355328) (hm : xs.length + ys.length ≤ 9223372036854775807)
    (hk : ∀ v' w', OwnS w' v' e sz (xs ++ ys) → Fr (blkS v) w w' → (v'.ownBlock = v.ownBlock ∨ ∃ g, v'.ownBlock = some g ∧ w.heap.size ≤ g) → (v' = .slice none 0 0 ↔ v = .slice none 0 0 ∧ ys = []) → K v' w') :
    C.run P (Builtin.append_ #[t, t] ty #[v, src]) w K := by
  obtain ⟨i0, hi, hzz⟩ := Option.map_eq_some_iff.1 hinfo
  simp only [Prod.mk.injEq] at hzz
  obtain ⟨hz0, hz1, hz2⟩ := hzz
  obtain ⟨A, c, rfl, hlc, hcm, hcell⟩ := hs
  have hyl : ∀ y ∈ ys, y.length = sz := by
    intro y hy
    obtain ⟨i, hi', rfl⟩ := List.getElem_of_mem hy
    obtain ⟨g, o, cs, e', fz, _, _, hc⟩ := hcell (by intro h; rw [h] at hi'; simp at hi')
    exact (hc i _ (List.getElem?_eq_getElem hi')).1
  cases A with
  | none =>
    have : ys = [] := by
      apply Classical.byContradiction
      intro hne
      obtain ⟨g, o, cs, e', fz, h, _⟩ := hcell hne
      cases h
    subst this
    refine C.run_of (v := v) (w' := w) ?_ (hk v w (by simpa using hv) (Fr.refl _ _) (.inl rfl) (by simp))
    rcases hv.1.2 with ⟨rfl, hn⟩ | ⟨g, cap, cur, rfl, _, _, hnc, _⟩
    · simp [Builtin.append_, underlying, ht, sizeOf, typeInfo, hi, Builtin.lenOf, Builtin.firstCells]
    · simp [Builtin.append_, underlying, ht, sizeOf, typeInfo, hi, Builtin.lenOf, Builtin.firstCells, hnc, storeCells]
  | some ad =>
    have hnews : ∀ j u, ys.flatten[j]? = some u → w.cell? (ad.add j) = some u := by
      intro j u hj
      have hlt : j < ys.flatten.length := (List.getElem?_eq_some_iff.1 hj).1
      rw [flatten_len ys hyl] at hlt
      have hne : ys ≠ [] := by intro h; rw [h] at hlt; simp at hlt
      obtain ⟨g, o, cs, e', fz, hA, hg, hc⟩ := hcell hne
      simp only [Option.some.injEq] at hA
      subst hA
      have hdiv : j / sz < ys.length := Nat.div_lt_of_lt_mul (by rwa [Nat.mul_comm])
      have hmod : j % sz < sz := Nat.mod_lt _ hsz
      have e1 := hc (j / sz) _ (List.getElem?_eq_getElem hdiv)
      have e2 := flatten_get ys hyl (j / sz) _ (List.getElem?_eq_getElem hdiv) (j % sz) hmod
      have hj' : j / sz * sz + j % sz = j := by rw [Nat.mul_comm]; exact Nat.div_add_mod j sz
      rw [hj', hj] at e2
      have e3 := e1.2 (j % sz) hmod
      rw [hj', ← e2] at e3
      rw [_root_.Go.Proofs.YtfdpmgddlaamcaaV.add_mk, cell_mk hg, e3]
    obtain ⟨v1, w1, hr, hown, hg, hnil, hat⟩ := run_append_own_at (P := P) (w := w) 0 t ty e i0 z sz bytes ht hi hz0 hz1 hz2 hz hsz v xs.length xs.flatten hv.1 ad ys.length c ys.flatten (flatten_len ys hyl) hnews
      (by intro u hu; obtain ⟨y, hy, hu⟩ := List.mem_flatten.1 hu; exact h1 y hy u hu) (by unfold maxLen; omega) hb (Nat.zero_le _)
    refine C.run_of hr (hk v1 w1 ⟨?_, ?_⟩ (fr_of_grownBy hg) ?_ ?_)
    · rw [List.length_append, List.flatten_append]; exact hown
    · intro x hx
      rcases List.mem_append.1 hx with hx | hx
      · exact hv.2 x hx
      · exact ⟨hyl x hx, h1 x hx⟩
    · rcases hat with h | h
      · exact .inl h
      · exact .inr ⟨_, h, Nat.le_refl _⟩
    · rw [hnil]
      constructor
      · rintro ⟨h1, h2⟩; exact ⟨h1, List.eq_nil_of_length_eq_zero h2⟩
      · rintro ⟨h1, h2⟩; exact ⟨h1, by rw [h2]; rfl⟩
/-- A block that is new: a slice of it. -/
theorem RdS.of_block {g n c sz : Nat} {e : TypeId} {fz : Nat × Nat} {cs : Array Value} {xs : List (List Value)} (hg : w.heap[g]? = some (.cells cs e fz)) (hn : n = xs.length) (hc : n ≤ c) (hcm : c ≤ 9223372036854775807) (hl : ∀ x ∈ xs, x.length = sz) (hx : cs.toList.take (n * sz) = xs.flatten) :
    RdS w (.slice (some ⟨g, 0, none⟩) n c) sz xs := by
  subst hn
  refine ⟨_, c, rfl, hc, by unfold maxLen; omega, fun _ => ⟨g, 0, cs, e, fz, rfl, hg, fun i x hi => ?_⟩⟩
  refine ⟨hl x (List.mem_of_getElem? hi), fun j hj => ?_⟩
  have hlt : i < xs.length := (List.getElem?_eq_some_iff.1 hi).1
  rw [← flatten_get xs hl i x hi j hj, ← hx, List.getElem?_take, if_pos]
  · simp
  · have : (i + 1) * sz ≤ xs.length * sz := Nat.mul_le_mul_right _ hlt
    rw [Nat.add_mul] at this
    omega
theorem OwnS.of_block {g n c sz : Nat} {e : TypeId} {cs : Array Value} {xs : List (List Value)} (hg : w.heap[g]? = some (.cells cs e (0, 0))) (hn : n = xs.length) (hc : n ≤ c) (hcm : c ≤ 9223372036854775807) (hcs : cs.size = c * sz) (hl : ∀ x ∈ xs, x.length = sz ∧ ∀ u ∈ x, u.oneCell' = true) (hx : cs.toList.take (n * sz) = xs.flatten) :
    OwnS w (.slice (some ⟨g, 0, none⟩) n c) e sz xs := by
  subst hn
  exact ⟨⟨flatten_len xs fun x h => (hl x h).1, .inr ⟨g, c, cs, rfl, Nat.zero_le _, hg, hc, by unfold maxLen; omega, hcs, hx⟩⟩, hl⟩
end
end Go.Proofs.YtfdpmgddlaamcaaV
