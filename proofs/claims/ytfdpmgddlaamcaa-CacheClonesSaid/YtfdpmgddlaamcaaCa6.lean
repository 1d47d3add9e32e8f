/- The cache of pages: whose page is what, plainly; what a set, and a delete, change. -/
import Derived.Test.YtfdpmgddlaamcaaCa5
namespace Go.Proofs.YtfdpmgddlaamcaaV
open Go Go.Proofs Go.RowKit
set_option linter.unusedVariables false
set_option linter.unusedSimpArgs false
abbrev Pgs := List ((Int × Int) × Value × Nat)
/-- What a cache's keys and pages keep. -/
structure Kept (n : Int) (l : Pgs) : Prop where
  ks : ∀ x ∈ l, 0 ≤ x.1.1 ∧ x.1.1 < n ∧ 1 ≤ x.1.2 ∧ x.1.2 < 5 ∧ ∃ p : Int, x.2.1 = .int .i64 p ∧ 0 ≤ p ∧ p < 64
  kn : (l.map fun x => x.1).Nodup
def On (l : Pgs) (a : Int × Int) (p : Int) : Prop := ∃ x ∈ l, x.1 = a ∧ x.2.1 = .int .i64 p
theorem fnd_spec (a : Int × Int) (l : Pgs) : (fnd a l 0 = none ∧ ∀ x ∈ l, x.1 ≠ a) ∨ ∃ j x, l[j]? = some x ∧ x.1 = a ∧ fnd a l 0 = some (j, x.2.1) := by
  by_cases h : ∃ x ∈ l, x.1 = a
  · obtain ⟨j, x, h1, h2, _, h4⟩ := fnd_at (i := 0) h
    rw [Nat.zero_add] at h4
    exact .inr ⟨j, x, h1, h2, h4⟩
  · have h' : ∀ x ∈ l, x.1 ≠ a := fun x hx e => h ⟨x, hx, e⟩
    exact .inl ⟨fnd_none h', h'⟩
theorem key_one {l : Pgs} (h : (l.map fun x => x.1).Nodup) {i j : Nat} {x y : (Int × Int) × Value × Nat} (hi : l[i]? = some x) (hj : l[j]? = some y) (e : x.1 = y.1) : i = j := by
  obtain ⟨i1, i2⟩ := List.getElem?_eq_some_iff.1 hi
  obtain ⟨j1, j2⟩ := List.getElem?_eq_some_iff.1 hj
  apply Classical.byContradiction
  intro hne
  have hp := List.pairwise_iff_getElem.1 (List.nodup_iff_pairwise_ne.1 h)
  rcases Nat.lt_or_gt_of_ne hne with c | c
  · have := hp i j (by simpa using i1) (by simpa using j1) c
    simp only [List.getElem_map, i2, j2] at this
    exact this e
  · have := hp j i (by simpa using j1) (by simpa using i1) c
    simp only [List.getElem_map, i2, j2] at this
    exact this e.symm
theorem key_mem {l : Pgs} (h : (l.map fun x => x.1).Nodup) {x y : (Int × Int) × Value × Nat} (hx : x ∈ l) (hy : y ∈ l) (e : x.1 = y.1) : x = y := by
  obtain ⟨i, hi⟩ := List.mem_iff_getElem?.1 hx
  obtain ⟨j, hj⟩ := List.mem_iff_getElem?.1 hy
  have := key_one h hi hj e
  subst this
  rw [hi] at hj
  exact Option.some.inj hj
theorem On.one {n : Int} {l : Pgs} (hk : Kept n l) {a : Int × Int} {p q : Int} (h1 : On l a p) (h2 : On l a q) : p = q := by
  obtain ⟨x, a1, a2, a3⟩ := h1
  obtain ⟨y, b1, b2, b3⟩ := h2
  have := key_mem hk.kn a1 b1 (a2.trans b2.symm)
  subst this
  rw [a3] at b3
  simpa using b3
theorem On.whose {c : Nat} {l : Pgs} (hg : Good l c) {a b : Int × Int} {p : Int} (h1 : On l a p) (h2 : On l b p) : a = b := by
  obtain ⟨x, a1, a2, a3⟩ := h1
  obtain ⟨y, b1, b2, b3⟩ := h2
  have := hg.uni x a1 y b1 (a3.trans b3.symm)
  subst this
  exact a2.symm.trans b2
theorem On.in {n : Int} {l : Pgs} (hk : Kept n l) {a : Int × Int} {p : Int} (h : On l a p) : 0 ≤ a.1 ∧ a.1 < n ∧ 1 ≤ a.2 ∧ a.2 < 5 ∧ 0 ≤ p ∧ p < 64 := by
  obtain ⟨x, a1, rfl, a3⟩ := h
  obtain ⟨h1, h2, h3, h4, q, h5, h6, h7⟩ := hk.ks x a1
  rw [a3] at h5
  simp only [Value.int.injEq, true_and] at h5
  subst h5
  exact ⟨h1, h2, h3, h4, h6, h7⟩
theorem on_none {n : Int} {l : Pgs} (hk : Kept n l) {a : Int × Int} (h : ∀ p, ¬ On l a p) : ∀ x ∈ l, x.1 ≠ a := fun x hx e => by
  obtain ⟨_, _, _, _, q, h5, _⟩ := hk.ks x hx
  exact h q ⟨x, hx, e, h5⟩
theorem page_on {n : Int} {l : Pgs} (hk : Kept n l) {a : Int × Int} {p : Int} (h : On l a p) : pageOf l a = p := by
  unfold pageOf
  rcases fnd_spec a l with ⟨h1, h2⟩ | ⟨j, x, h1, h2, h3⟩
  · obtain ⟨x, a1, a2, _⟩ := h
    exact absurd a2 (h2 x a1)
  · rw [h3]
    obtain ⟨_, _, _, _, q, h5, _⟩ := hk.ks x (List.mem_of_getElem? h1)
    have := On.one hk h ⟨x, List.mem_of_getElem? h1, h2, h5⟩
    simp [h5, valI, this]
theorem page_off {n : Int} {l : Pgs} (hk : Kept n l) {a : Int × Int} (h : ∀ p, ¬ On l a p) : pageOf l a = -1 := by
  unfold pageOf
  rw [fnd_none (on_none hk h)]
theorem page_is {n : Int} {l : Pgs} (hk : Kept n l) (a : Int × Int) : (0 ≤ pageOf l a ∧ On l a (pageOf l a)) ∨ (pageOf l a = -1 ∧ ∀ p, ¬ On l a p) := by
  by_cases h : ∃ p, On l a p
  · obtain ⟨p, h⟩ := h
    rw [page_on hk h]
    exact .inl ⟨(h.in hk).2.2.2.2.1, h⟩
  · have h' : ∀ p, ¬ On l a p := fun p hp => h ⟨p, hp⟩
    exact .inr ⟨page_off hk h', h'⟩
theorem owner_on {c : Nat} {l : Pgs} (hg : Good l c) {a : Int × Int} {p : Int} (h : On l a p) : ownerOf l p = a := by
  obtain ⟨x, a1, a2, a3⟩ := h
  rw [ownerOf_some a1 a3 hg.uni, a2]
theorem owner_off {l : Pgs} {p : Int} (h : ∀ a, ¬ On l a p) : ownerOf l p = (-1, 0) := ownerOf_none fun x hx e => h x.1 ⟨x, hx, rfl, e⟩
theorem owner_is {n : Int} {c : Nat} {l : Pgs} (hg : Good l c) (hk : Kept n l) (p : Int) : (0 ≤ (ownerOf l p).1 ∧ On l (ownerOf l p) p) ∨ (ownerOf l p = (-1, 0) ∧ ∀ a, ¬ On l a p) := by
  by_cases h : ∃ a, On l a p
  · obtain ⟨a, h⟩ := h
    rw [owner_on hg h]
    exact .inl ⟨(h.in hk).1, h⟩
  · have h' : ∀ a, ¬ On l a p := fun p hp => h ⟨p, hp⟩
    exact .inr ⟨owner_off h', h'⟩
/-! ### A set -/
theorem on_set {n : Int} {l : Pgs} (hk : Kept n l) {a : Int × Int} {p : Int} {c : Nat} (b : Int × Int) (q : Int) : On (setL l a p c).1 b q ↔ (b = a ∧ q = p) ∨ (b ≠ a ∧ On l b q) := by
  unfold setL
  rcases fnd_spec a l with ⟨h1, h2⟩ | ⟨j, x, h1, h2, h3⟩
  · rw [h1]
    constructor
    · rintro ⟨x, a1, a2, a3⟩
      rcases List.mem_append.1 a1 with d | d
      · exact .inr ⟨a2 ▸ h2 x d, x, d, a2, a3⟩
      · rw [List.mem_singleton.1 d] at a2 a3
        simp only [Value.int.injEq, true_and] at a3
        exact .inl ⟨a2.symm, a3.symm⟩
    · rintro (⟨rfl, rfl⟩ | ⟨_, x, d, a2, a3⟩)
      · exact ⟨_, List.mem_append.2 (.inr (List.mem_singleton.2 rfl)), rfl, rfl⟩
      · exact ⟨x, List.mem_append.2 (.inl d), a2, a3⟩
  · rw [h3]
    simp only [h1, Option.map_some, Option.getD_some]
    have hjl : j < l.length := (List.getElem?_eq_some_iff.1 h1).1
    constructor
    · rintro ⟨y, a1, a2, a3⟩
      obtain ⟨i, hi⟩ := List.mem_iff_getElem?.1 a1
      by_cases e : i = j
      · subst e
        rw [List.getElem?_set_self hjl] at hi
        have := Option.some.inj hi
        subst this
        simp only [Value.int.injEq, true_and] at a3
        exact .inl ⟨a2.symm, a3.symm⟩
      · rw [List.getElem?_set_ne (Ne.symm e)] at hi
        exact .inr ⟨fun d => e (key_one hk.kn hi h1 (by rw [a2, d, h2])), y, List.mem_of_getElem? hi, a2, a3⟩
    · rintro (⟨rfl, rfl⟩ | ⟨hb, y, d, a2, a3⟩)
      · exact ⟨_, List.mem_iff_getElem?.2 ⟨j, List.getElem?_set_self hjl⟩, rfl, rfl⟩
      · obtain ⟨i, hi⟩ := List.mem_iff_getElem?.1 d
        by_cases e : i = j
        · subst e
          rw [h1] at hi
          have := Option.some.inj hi
          subst this
          exact absurd (a2.symm.trans h2) hb
        · exact ⟨y, List.mem_iff_getElem?.2 ⟨i, by rw [List.getElem?_set_ne (Ne.symm e)]; exact hi⟩, a2, a3⟩
theorem kept_set {n t k p : Int} {l : Pgs} (hk : Kept n l) {c : Nat} (h1 : 0 ≤ t) (h2 : t < n) (h3 : 1 ≤ k) (h4 : k < 5) (h5 : 0 ≤ p) (h6 : p < 64) : Kept n (setL l (t, k) p c).1 := by
  unfold setL
  rcases fnd_spec (t, k) l with ⟨g1, g2⟩ | ⟨j, x, g1, g2, g3⟩
  · rw [g1]
    refine ⟨fun x hx => ?_, ?_⟩
    · rcases List.mem_append.1 hx with d | d
      · exact hk.ks x d
      · rw [List.mem_singleton.1 d]
        exact ⟨h1, h2, h3, h4, p, rfl, h5, h6⟩
    · simp only [List.map_append, List.map_cons, List.map_nil]
      rw [List.nodup_append]
      refine ⟨hk.kn, by simp, fun x hx y hy => ?_⟩
      obtain ⟨z, hz, rfl⟩ := List.mem_map.1 hx
      rw [List.mem_singleton.1 hy]
      exact g2 z hz
  · rw [g3]
    simp only [g1, Option.map_some, Option.getD_some]
    refine ⟨fun x hx => ?_, ?_⟩
    · rcases List.mem_or_eq_of_mem_set hx with d | d
      · exact hk.ks x d
      · rw [d]
        exact ⟨h1, h2, h3, h4, p, rfl, h5, h6⟩
    · rw [List.map_set]
      have : (l.map fun x => x.1).set j (t, k) = l.map fun x => x.1 := by
        obtain ⟨e1, e2⟩ := List.getElem?_eq_some_iff.1 g1
        apply List.ext_getElem
        · simp
        · intro i h1 h2
          rw [List.getElem_set]
          split
          · rename_i e; subst e; simp [e2, g2]
          · rfl
      rw [this]
      exact hk.kn
/-! ### A delete -/
def delL (l : Pgs) (a : Int × Int) : Pgs := match fnd a l 0 with
  | some (j, _) => l.eraseIdx j
  | none => l
theorem del_sub (l : Pgs) (a : Int × Int) : List.Sublist (delL l a) l := by
  unfold delL
  split
  · exact List.eraseIdx_sublist _ _
  · exact List.Sublist.refl _
theorem Good.sub {l l' : Pgs} {c : Nat} (hg : Good l c) (h : List.Sublist l' l) : Good l' c :=
  ⟨fun x hx => hg.born x (h.subset hx), (h.map _).nodup hg.once, fun x hx y hy => hg.uni x (h.subset hx) y (h.subset hy)⟩
theorem Kept.sub {n : Int} {l l' : Pgs} (hk : Kept n l) (h : List.Sublist l' l) : Kept n l' :=
  ⟨fun x hx => hk.ks x (h.subset hx), (h.map _).nodup hk.kn⟩
theorem on_del {n : Int} {l : Pgs} (hk : Kept n l) {a : Int × Int} (b : Int × Int) (q : Int) : On (delL l a) b q ↔ b ≠ a ∧ On l b q := by
  unfold delL
  rcases fnd_spec a l with ⟨h1, h2⟩ | ⟨j, x, h1, h2, h3⟩
  · rw [h1]
    constructor
    · rintro ⟨x, a1, a2, a3⟩
      exact ⟨a2 ▸ h2 x a1, x, a1, a2, a3⟩
    · exact fun h => h.2
  · rw [h3]
    simp only
    constructor
    · rintro ⟨y, a1, a2, a3⟩
      obtain ⟨i, hi, e⟩ := List.mem_eraseIdx_iff_getElem?.1 a1
      exact ⟨fun d => hi (key_one hk.kn e h1 (by rw [a2, d, h2])), y, List.mem_of_getElem? e, a2, a3⟩
    · rintro ⟨hb, y, d, a2, a3⟩
      obtain ⟨i, hi⟩ := List.mem_iff_getElem?.1 d
      refine ⟨y, List.mem_eraseIdx_iff_getElem?.2 ⟨i, fun e => ?_, hi⟩, a2, a3⟩
      subst e
      rw [h1] at hi
      have := Option.some.inj hi
      subst this
      exact hb (a2.symm.trans h2)
/-! ### All -/
def allP (l : Pgs) : List Int := l.map fun x => valI x.2.1
theorem mem_allP {n : Int} {l : Pgs} (hk : Kept n l) {p : Int} : p ∈ allP l ↔ ∃ a, On l a p := by
  simp only [allP, List.mem_map]
  constructor
  · rintro ⟨x, hx, rfl⟩
    obtain ⟨_, _, _, _, q, h5, _⟩ := hk.ks x hx
    exact ⟨x.1, x, hx, rfl, by rw [h5, valI]⟩
  · rintro ⟨a, x, hx, _, h⟩
    exact ⟨x, hx, by rw [h, valI]⟩
theorem nodup_allP {n : Int} {c : Nat} {l : Pgs} (hg : Good l c) (hk : Kept n l) : (allP l).Nodup := by
  unfold allP
  rw [List.nodup_iff_pairwise_ne, List.pairwise_map]
  refine List.Pairwise.imp_of_mem (R := fun x y => x.1 ≠ y.1) (fun {x y} hx hy hne e => ?_) ?_
  · obtain ⟨_, _, _, _, q, h5, _⟩ := hk.ks x hx
    obtain ⟨_, _, _, _, r, h6, _⟩ := hk.ks y hy
    rw [h5, h6] at e
    simp only [valI] at e
    subst e
    exact hne (congrArg (fun x => x.1) (hg.uni x hx y hy (h5.trans h6.symm)))
  · have := List.nodup_iff_pairwise_ne.1 hk.kn
    rwa [List.pairwise_map] at this
end Go.Proofs.YtfdpmgddlaamcaaV
