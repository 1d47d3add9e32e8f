/- Part 6 of what the law needs: own lemmas, in the order in which they build. -/
import Derived.Shelf.SortM.Plain
import Derived.Sort.OwnSortedInts
import Derived.Shelf.SortM.SortNone
import Derived.Test.YtcakfaakbpdklaaGreatDoorProg
import Derived.Test.YtcakfaakbpdklaaGreatDoorTopOwn05
namespace Go.Proofs.YtcakfaakbpdklaaGreatDoorV
open Go Go.Proofs Go.RowKit
set_option linter.unusedVariables false
set_option linter.unusedSimpArgs false
abbrev Pgs := List ((Int × Int) × Value × Nat)
structure qbs (n : Int) (l : Pgs) : Prop where
  ks : ∀ x ∈ l, 0 ≤ x.1.1 ∧ x.1.1 < n ∧ 1 ≤ x.1.2 ∧ x.1.2 < 5 ∧ ∃ p : Int, x.2.1 = .int .i64 p ∧ 0 ≤ p ∧ p < 64
  kn : (l.map fun x => x.1).Nodup
def On (l : Pgs) (a : Int × Int) (p : Int) : Prop := ∃ x ∈ l, x.1 = a ∧ x.2.1 = .int .i64 p
theorem qgf (a : Int × Int) (l : Pgs) : (fnd a l 0 = none ∧ ∀ x ∈ l, x.1 ≠ a) ∨ ∃ j x, l[j]? = some x ∧ x.1 = a ∧ fnd a l 0 = some (j, x.2.1) := by
  by_cases h : ∃ x ∈ l, x.1 = a
  · obtain ⟨j, x, h1, h2, _, h4⟩ := qg6 (i := 0) h
    rw [Nat.zero_add] at h4
    exact .inr ⟨j, x, h1, h2, h4⟩
  · have h' : ∀ x ∈ l, x.1 ≠ a := fun x hx e => h ⟨x, hx, e⟩
    exact .inl ⟨qd6 h', h'⟩
theorem qj2 {l : Pgs} (h : (l.map fun x => x.1).Nodup) {i j : Nat} {x y : (Int × Int) × Value × Nat} (hi : l[i]? = some x) (hj : l[j]? = some y) (e : x.1 = y.1) : i = j := by
  obtain ⟨i1, i2⟩ := List.getElem?_eq_some_iff.1 hi
  obtain ⟨j1, j2⟩ := List.getElem?_eq_some_iff.1 hj
  apply Classical.byContradiction
  intro hne
  have hp := List.pairwise_iff_getElem.1 (List.nodup_iff_pairwise_ne.1 h)
  rcases Nat.lt_or_gt_of_ne hne with c | c
  · have := hp i j (by simpa using i1) (by simpa using j1) c
    simp only [List.getElem_map, i2, j2] at this
    exact this e
  · have := hp j i (by simpa using j1) (by simpa using i1) c
    simp only [List.getElem_map, i2, j2] at this
    exact this e.symm
theorem qvz {l : Pgs} (h : (l.map fun x => x.1).Nodup) {x y : (Int × Int) × Value × Nat} (hx : x ∈ l) (hy : y ∈ l) (e : x.1 = y.1) : x = y := by
  obtain ⟨i, hi⟩ := List.mem_iff_getElem?.1 hx
  obtain ⟨j, hj⟩ := List.mem_iff_getElem?.1 hy
  have := qj2 h hi hj e
  subst this
  rw [hi] at hj
  exact Option.some.inj hj
theorem On.one {n : Int} {l : Pgs} (hk : qbs n l) {a : Int × Int} {p q : Int} (h1 : On l a p) (h2 : On l a q) : p = q := by
  obtain ⟨x, a1, a2, a3⟩ := h1
  obtain ⟨y, b1, b2, b3⟩ := h2
  have := qvz hk.kn a1 b1 (a2.trans b2.symm)
  subst this
  rw [a3] at b3
  simpa using b3
theorem On.whose {c : Nat} {l : Pgs} (hg : qch l c) {a b : Int × Int} {p : Int} (h1 : On l a p) (h2 : On l b p) : a = b := by
  obtain ⟨x, a1, a2, a3⟩ := h1
  obtain ⟨y, b1, b2, b3⟩ := h2
  have := hg.uni x a1 y b1 (a3.trans b3.symm)
  subst this
  exact a2.symm.trans b2
theorem On.in {n : Int} {l : Pgs} (hk : qbs n l) {a : Int × Int} {p : Int} (h : On l a p) : 0 ≤ a.1 ∧ a.1 < n ∧ 1 ≤ a.2 ∧ a.2 < 5 ∧ 0 ≤ p ∧ p < 64 := by
  obtain ⟨x, a1, rfl, a3⟩ := h
  obtain ⟨h1, h2, h3, h4, q, h5, h6, h7⟩ := hk.ks x a1
  rw [a3] at h5
  simp only [Value.int.injEq, true_and] at h5
  subst h5
  exact ⟨h1, h2, h3, h4, h6, h7⟩
theorem qv2 {n : Int} {l : Pgs} (hk : qbs n l) {a : Int × Int} (h : ∀ p, ¬ On l a p) : ∀ x ∈ l, x.1 ≠ a := fun x hx e => by
  obtain ⟨_, _, _, _, q, h5, _⟩ := hk.ks x hx
  exact h q ⟨x, hx, e, h5⟩
theorem qv4 {n : Int} {l : Pgs} (hk : qbs n l) {a : Int × Int} {p : Int} (h : On l a p) : qcu l a = p := by
  unfold qcu
  rcases qgf a l with ⟨h1, h2⟩ | ⟨j, x, h1, h2, h3⟩
  · obtain ⟨x, a1, a2, _⟩ := h
    exact absurd a2 (h2 x a1)
  · rw [h3]
    obtain ⟨_, _, _, _, q, h5, _⟩ := hk.ks x (List.mem_of_getElem? h1)
    have := On.one hk h ⟨x, List.mem_of_getElem? h1, h2, h5⟩
    simp [h5, qt6, this]
theorem qtu {n : Int} {l : Pgs} (hk : qbs n l) {a : Int × Int} (h : ∀ p, ¬ On l a p) : qcu l a = -1 := by
  unfold qcu
  rw [qd6 (qv2 hk h)]
theorem qoa {n : Int} {l : Pgs} (hk : qbs n l) (a : Int × Int) : (0 ≤ qcu l a ∧ On l a (qcu l a)) ∨ (qcu l a = -1 ∧ ∀ p, ¬ On l a p) := by
  by_cases h : ∃ p, On l a p
  · obtain ⟨p, h⟩ := h
    rw [qv4 hk h]
    exact .inl ⟨(h.in hk).2.2.2.2.1, h⟩
  · have h' : ∀ p, ¬ On l a p := fun p hp => h ⟨p, hp⟩
    exact .inr ⟨qtu hk h', h'⟩
theorem qml {c : Nat} {l : Pgs} (hg : qch l c) {a : Int × Int} {p : Int} (h : On l a p) : qba l p = a := by
  obtain ⟨x, a1, a2, a3⟩ := h
  rw [qhe a1 a3 hg.uni, a2]
theorem qro {l : Pgs} {p : Int} (h : ∀ a, ¬ On l a p) : qba l p = (-1, 0) := qe9 fun x hx e => h x.1 ⟨x, hx, rfl, e⟩
theorem qmk {n : Int} {c : Nat} {l : Pgs} (hg : qch l c) (hk : qbs n l) (p : Int) : (0 ≤ (qba l p).1 ∧ On l (qba l p) p) ∨ (qba l p = (-1, 0) ∧ ∀ a, ¬ On l a p) := by
  by_cases h : ∃ a, On l a p
  · obtain ⟨a, h⟩ := h
    rw [qml hg h]
    exact .inl ⟨(h.in hk).1, h⟩
  · have h' : ∀ a, ¬ On l a p := fun p hp => h ⟨p, hp⟩
    exact .inr ⟨qro h', h'⟩
theorem qx3 {n : Int} {l : Pgs} (hk : qbs n l) {a : Int × Int} {p : Int} {c : Nat} (b : Int × Int) (q : Int) : On (setL l a p c).1 b q ↔ (b = a ∧ q = p) ∨ (b ≠ a ∧ On l b q) := by
  unfold setL
  rcases qgf a l with ⟨h1, h2⟩ | ⟨j, x, h1, h2, h3⟩
  · rw [h1]
    constructor
    · rintro ⟨x, a1, a2, a3⟩
      rcases List.mem_append.1 a1 with d | d
      · exact .inr ⟨a2 ▸ h2 x d, x, d, a2, a3⟩
      · rw [List.mem_singleton.1 d] at a2 a3
        simp only [Value.int.injEq, true_and] at a3
        exact .inl ⟨a2.symm, a3.symm⟩
    · rintro (⟨rfl, rfl⟩ | ⟨_, x, d, a2, a3⟩)
      · exact ⟨_, List.mem_append.2 (.inr (List.mem_singleton.2 rfl)), rfl, rfl⟩
      · exact ⟨x, List.mem_append.2 (.inl d), a2, a3⟩
  · rw [h3]
    simp only [h1, Option.map_some, Option.getD_some]
    have hjl : j < l.length := (List.getElem?_eq_some_iff.1 h1).1
    constructor
    · rintro ⟨y, a1, a2, a3⟩
      obtain ⟨i, hi⟩ := List.mem_iff_getElem?.1 a1
      by_cases e : i = j
      · subst e
        rw [List.getElem?_set_self hjl] at hi
        have := Option.some.inj hi
        subst this
        simp only [Value.int.injEq, true_and] at a3
        exact .inl ⟨a2.symm, a3.symm⟩
      · rw [List.getElem?_set_ne (Ne.symm e)] at hi
        exact .inr ⟨fun d => e (qj2 hk.kn hi h1 (by rw [a2, d, h2])), y, List.mem_of_getElem? hi, a2, a3⟩
    · rintro (⟨rfl, rfl⟩ | ⟨hb, y, d, a2, a3⟩)
      · exact ⟨_, List.mem_iff_getElem?.2 ⟨j, List.getElem?_set_self hjl⟩, rfl, rfl⟩
      · obtain ⟨i, hi⟩ := List.mem_iff_getElem?.1 d
        by_cases e : i = j
        · subst e
          rw [h1] at hi
          have := Option.some.inj hi
          subst this
          exact absurd (a2.symm.trans h2) hb
        · exact ⟨y, List.mem_iff_getElem?.2 ⟨i, by rw [List.getElem?_set_ne (Ne.symm e)]; exact hi⟩, a2, a3⟩
theorem qtj {n t k p : Int} {l : Pgs} (hk : qbs n l) {c : Nat} (h1 : 0 ≤ t) (h2 : t < n) (h3 : 1 ≤ k) (h4 : k < 5) (h5 : 0 ≤ p) (h6 : p < 64) : qbs n (setL l (t, k) p c).1 := by
  unfold setL
  rcases qgf (t, k) l with ⟨g1, g2⟩ | ⟨j, x, g1, g2, g3⟩
  · rw [g1]
    refine ⟨fun x hx => ?_, ?_⟩
    · rcases List.mem_append.1 hx with d | d
      · exact hk.ks x d
      · rw [List.mem_singleton.1 d]
        exact ⟨h1, h2, h3, h4, p, rfl, h5, h6⟩
    · simp only [List.map_append, List.map_cons, List.map_nil]
      rw [List.nodup_append]
      refine ⟨hk.kn, by simp, fun x hx y hy => ?_⟩
      obtain ⟨z, hz, rfl⟩ := List.mem_map.1 hx
      rw [List.mem_singleton.1 hy]
      exact g2 z hz
  · rw [g3]
    simp only [g1, Option.map_some, Option.getD_some]
    refine ⟨fun x hx => ?_, ?_⟩
    · rcases List.mem_or_eq_of_mem_set hx with d | d
      · exact hk.ks x d
      · rw [d]
        exact ⟨h1, h2, h3, h4, p, rfl, h5, h6⟩
    · rw [List.map_set]
      have : (l.map fun x => x.1).set j (t, k) = l.map fun x => x.1 := by
        obtain ⟨e1, e2⟩ := List.getElem?_eq_some_iff.1 g1
        apply List.ext_getElem
        · simp
        · intro i h1 h2
          rw [List.getElem_set]
          split
          · rename_i e; subst e; simp [e2, g2]
          · rfl
      rw [this]
      exact hk.kn
def qik (l : Pgs) (a : Int × Int) : Pgs := match fnd a l 0 with
  | some (j, _) => l.eraseIdx j
  | none => l
theorem qn1 (l : Pgs) (a : Int × Int) : List.Sublist (qik l a) l := by
  unfold qik
  split
  · exact List.eraseIdx_sublist _ _
  · exact List.Sublist.refl _
theorem qch.sub {l l' : Pgs} {c : Nat} (hg : qch l c) (h : List.Sublist l' l) : qch l' c :=
  ⟨fun x hx => hg.born x (h.subset hx), (h.map _).nodup hg.once, fun x hx y hy => hg.uni x (h.subset hx) y (h.subset hy)⟩
theorem qbs.sub {n : Int} {l l' : Pgs} (hk : qbs n l) (h : List.Sublist l' l) : qbs n l' :=
  ⟨fun x hx => hk.ks x (h.subset hx), (h.map _).nodup hk.kn⟩
theorem qx2 {n : Int} {l : Pgs} (hk : qbs n l) {a : Int × Int} (b : Int × Int) (q : Int) : On (qik l a) b q ↔ b ≠ a ∧ On l b q := by
  unfold qik
  rcases qgf a l with ⟨h1, h2⟩ | ⟨j, x, h1, h2, h3⟩
  · rw [h1]
    constructor
    · rintro ⟨x, a1, a2, a3⟩
      exact ⟨a2 ▸ h2 x a1, x, a1, a2, a3⟩
    · exact fun h => h.2
  · rw [h3]
    simp only
    constructor
    · rintro ⟨y, a1, a2, a3⟩
      obtain ⟨i, hi, e⟩ := List.mem_eraseIdx_iff_getElem?.1 a1
      exact ⟨fun d => hi (qj2 hk.kn e h1 (by rw [a2, d, h2])), y, List.mem_of_getElem? e, a2, a3⟩
    · rintro ⟨hb, y, d, a2, a3⟩
      obtain ⟨i, hi⟩ := List.mem_iff_getElem?.1 d
      refine ⟨y, List.mem_eraseIdx_iff_getElem?.2 ⟨i, fun e => ?_, hi⟩, a2, a3⟩
      subst e
      rw [h1] at hi
      have := Option.some.inj hi
      subst this
      exact hb (a2.symm.trans h2)
theorem qhc : ∀ (n : Nat) (l : List Int), l.Nodup → (∀ x ∈ l, 0 ≤ x ∧ x < (n : Int)) → l.length ≤ n
  | 0, l, _, h => by
    cases l with
    | nil => simp
    | cons x l => have := h x (by simp); omega
  | n + 1, l, hd, h => by
    by_cases hn : (n : Int) ∈ l
    · have ih := qhc n (l.erase n) (hd.erase _) fun x hx => by
        have h1 := h x (List.mem_of_mem_erase hx)
        have h2 : x ≠ n := fun e => by subst e; exact absurd hx hd.not_mem_erase
        omega
      have := List.length_erase_of_mem hn
      omega
    · have ih := qhc n l hd fun x hx => by
        have h1 := h x hx
        have h2 : x ≠ n := fun e => by subst e; exact hn hx
        omega
      omega
structure qda (n t : Int) (l : Pgs) (c : Nat) (k : Int) (l' : Pgs) (out : List Int) : Prop where
  good0 : qch l c
  good : qch l' c
  kept : qbs n l'
  on : ∀ b q, On l' b q ↔ On l b q ∧ ¬ (b.1 = t ∧ b.2 < k)
  mem : ∀ q, q ∈ out ↔ ∃ j, j < k ∧ On l (t, j) q
  nd : out.Nodup
  len : (out.length : Int) < k
section
variable {n t k : Int} {l l' : Pgs} {c : Nat} {out : List Int}
theorem qda.start (hg : qch l c) (hk : qbs n l) : qda n t l c 1 l [] := by
  refine ⟨hg, hg, hk, fun b q => ⟨fun h => ⟨h, fun e => ?_⟩, fun h => h.1⟩, fun q => ⟨fun h => (by cases h), ?_⟩, by simp, by simp⟩
  · have := h.in hk; omega
  · rintro ⟨j, hj, h⟩
    have := h.in hk
    simp only at this
    omega
theorem qda.take {p : Int} (h : qda n t l c k l' out) (hp : On l' (t, k) p) : qda n t l c (k + 1) (qik l' (t, k)) (out ++ [p]) := by
  have hs := qn1 l' (t, k)
  have h0 := (h.on _ _).1 hp
  refine ⟨h.good0, h.good.sub hs, h.kept.sub hs, fun b q => ?_, fun q => ?_, ?_, ?_⟩
  · rw [qx2 h.kept, h.on]
    constructor
    · rintro ⟨h1, h2, h3⟩
      refine ⟨h2, fun e => ?_⟩
      by_cases e2 : b.2 = k
      · exact h1 (Prod.ext e.1 e2)
      · exact h3 ⟨e.1, by omega⟩
    · rintro ⟨h2, h3⟩
      refine ⟨fun e => ?_, h2, fun e => h3 ⟨e.1, by omega⟩⟩
      subst e
      exact h3 ⟨rfl, by simp only; omega⟩
  · rw [List.mem_append, h.mem, List.mem_singleton]
    constructor
    · rintro (⟨j, hj, hq⟩ | rfl)
      · exact ⟨j, by omega, hq⟩
      · exact ⟨k, by omega, h0.1⟩
    · rintro ⟨j, hj, hq⟩
      by_cases e : j = k
      · subst e
        exact .inr (On.one h.kept ((h.on _ _).2 ⟨hq, fun d => h0.2 ⟨rfl, d.2⟩⟩) hp)
      · exact .inl ⟨j, by omega, hq⟩
  · rw [List.nodup_append]
    refine ⟨h.nd, by simp, fun x hx y hy => ?_⟩
    rw [List.mem_singleton.1 hy]
    rintro rfl
    obtain ⟨j, hj, hq⟩ := (h.mem _).1 hx
    have := On.whose h.good0 hq h0.1
    simp only [Prod.mk.injEq, true_and] at this
    omega
  · have := h.len
    simp only [List.length_append, List.length_cons, List.length_nil]
    omega
theorem qda.skip (h : qda n t l c k l' out) (hp : ∀ p, ¬ On l' (t, k) p) : qda n t l c (k + 1) l' out := by
  have hno : ∀ p, ¬ On l (t, k) p := fun p hq => hp p ((h.on _ _).2 ⟨hq, fun d => by have := d.2; simp only at this; omega⟩)
  refine ⟨h.good0, h.good, h.kept, fun b q => ?_, fun q => ?_, h.nd, by have := h.len; omega⟩
  · rw [h.on]
    constructor
    · rintro ⟨h2, h3⟩
      refine ⟨h2, fun e => ?_⟩
      by_cases e2 : b.2 = k
      · have : b = (t, k) := Prod.ext e.1 e2
        subst this
        exact hno q h2
      · exact h3 ⟨e.1, by omega⟩
    · rintro ⟨h2, h3⟩
      exact ⟨h2, fun e => h3 ⟨e.1, by omega⟩⟩
  · rw [h.mem]
    constructor
    · rintro ⟨j, hj, hq⟩
      exact ⟨j, by omega, hq⟩
    · rintro ⟨j, hj, hq⟩
      by_cases e : j = k
      · subst e; exact absurd hq (hno q)
      · exact ⟨j, by omega, hq⟩
theorem qda.fin (hk : qbs n l) (h : qda n t l c 5 l' out) : (∀ b q, On l' b q ↔ On l b q ∧ b.1 ≠ t) ∧ ∀ q, q ∈ out ↔ ∃ j, On l (t, j) q := by
  refine ⟨fun b q => ?_, fun q => ?_⟩
  · rw [h.on]
    refine ⟨fun ⟨a, b⟩ => ⟨a, fun e => b ⟨e, (a.in hk).2.2.2.1⟩⟩, fun ⟨a, b⟩ => ⟨a, fun e => b e.1⟩⟩
  · rw [h.mem]
    exact ⟨fun ⟨j, _, a⟩ => ⟨j, a⟩, fun ⟨j, a⟩ => ⟨j, (a.in hk).2.2.2.1, a⟩⟩
end
end Go.Proofs.YtcakfaakbpdklaaGreatDoorV
namespace Go.Proofs.YtcakfaakbpdklaaGreatDoorV
open Go Go.Proofs Go.Shelf
def qrx : Go.Shelf.Ren := ⟨fun | 5 => 262 | 8 => 94 | 7 => 294 | 19 => 140 | 20 => 141 | 10 => 310 | 11 => 311 | 12 => 312 | 13 => 313 | 14 => 314 | 15 => 315 | 16 => 316 | 17 => 317 | 18 => 318 | 30 => 330 | 31 => 204 | 32 => 205 | 33 => 331 | 34 => 332 | 35 => 333 | 40 => 340 | n => n, fun | 23 => 54 | 25 => 3 | 3 => 3 | 32 => 157 | 22 => 54 | 0 => 0 | 44 => 208 | 46 => 210 | 4 => 4 | 36 => 201 | 35 => 200 | 41 => 68 | 5 => 5 | 9 => 9 | 53 => 275 | 57 => 109 | 63 => 306 | 64 => 262 | n => n, fun n => n⟩
theorem que : SlLaysM.n5 Tryz.prog qrx := {
  mixed := by kernel_rfl,
  f5 := ⟨Tryz.f262.name, by decide, Tryz.func262.trans (congrArg some (by kernel_rfl))⟩,
  f7 := ⟨Tryz.f294.name, by decide, Tryz.func294.trans (congrArg some (by kernel_rfl))⟩,
  f8 := Tryz.func94.trans (congrArg some (by kernel_rfl)),
  f10 := ⟨Tryz.f310.name, by decide, Tryz.func310.trans (congrArg some (by kernel_rfl))⟩,
  f11 := ⟨Tryz.f311.name, by decide, Tryz.func311.trans (congrArg some (by kernel_rfl))⟩,
  f12 := ⟨Tryz.f312.name, by decide, Tryz.func312.trans (congrArg some (by kernel_rfl))⟩,
  f13 := ⟨Tryz.f313.name, by decide, Tryz.func313.trans (congrArg some (by kernel_rfl))⟩,
  f14 := ⟨Tryz.f314.name, by decide, Tryz.func314.trans (congrArg some (by kernel_rfl))⟩,
  f15 := ⟨Tryz.f315.name, by decide, Tryz.func315.trans (congrArg some (by kernel_rfl))⟩,
  f16 := ⟨Tryz.f316.name, by decide, Tryz.func316.trans (congrArg some (by kernel_rfl))⟩,
  f17 := ⟨Tryz.f317.name, by decide, Tryz.func317.trans (congrArg some (by kernel_rfl))⟩,
  f18 := ⟨Tryz.f318.name, by decide, Tryz.func318.trans (congrArg some (by kernel_rfl))⟩,
  f19 := Tryz.func140.trans (congrArg some (by kernel_rfl)),
  f20 := Tryz.func141.trans (congrArg some (by kernel_rfl)),
  f30 := ⟨Tryz.f330.name, by decide, Tryz.func330.trans (congrArg some (by kernel_rfl))⟩,
  f31 := Tryz.func204.trans (congrArg some (by kernel_rfl)),
  f32 := Tryz.func205.trans (congrArg some (by kernel_rfl)),
  f33 := ⟨Tryz.f331.name, by decide, Tryz.func331.trans (congrArg some (by kernel_rfl))⟩,
  f34 := ⟨Tryz.f332.name, by decide, Tryz.func332.trans (congrArg some (by kernel_rfl))⟩,
  f35 := ⟨Tryz.f333.name, by decide, Tryz.func333.trans (congrArg some (by kernel_rfl))⟩,
  f40 := ⟨Tryz.f340.name, by decide, Tryz.func340.trans (congrArg some (by kernel_rfl))⟩,
  t0 := Tryz.underlying0,
  a0 := Tryz.isAgg0,
  z0 := Tryz.sizeOf0,
  v0 := Tryz.zeroValue0,
  t3 := Tryz.underlying3,
  a3 := Tryz.isAgg3,
  z3 := Tryz.sizeOf3,
  v3 := Tryz.zeroValue3,
  t4 := Tryz.underlying4,
  a4 := Tryz.isAgg4,
  z4 := Tryz.sizeOf4,
  v4 := Tryz.zeroValue4,
  t5 := Tryz.underlying5,
  a5 := Tryz.isAgg5,
  z5 := Tryz.sizeOf5,
  v5 := Tryz.zeroValue5,
  t9 := Tryz.underlying9,
  a9 := Tryz.isAgg9,
  z9 := Tryz.sizeOf9,
  v9 := Tryz.zeroValue9,
  t22 := Tryz.underlying54,
  a22 := Tryz.isAgg54,
  z22 := Tryz.sizeOf54,
  v22 := Tryz.zeroValue54,
  t23 := Tryz.underlying54,
  a23 := Tryz.isAgg54,
  z23 := Tryz.sizeOf54,
  v23 := Tryz.zeroValue54,
  t25 := Tryz.underlying3,
  a25 := Tryz.isAgg3,
  z25 := Tryz.sizeOf3,
  v25 := Tryz.zeroValue3,
  t32 := Tryz.underlying157,
  a32 := Tryz.isAgg157,
  z32 := Tryz.sizeOf157,
  v32 := Tryz.zeroValue157,
  t35 := Tryz.underlying200,
  a35 := Tryz.isAgg200,
  z35 := Tryz.sizeOf200,
  v35 := Tryz.zeroValue200,
  t36 := Tryz.underlying201,
  a36 := Tryz.isAgg201,
  z36 := Tryz.sizeOf201,
  v36 := Tryz.zeroValue201,
  t41 := Tryz.underlying68,
  a41 := Tryz.isAgg68,
  z41 := Tryz.sizeOf68,
  v41 := Tryz.zeroValue68,
  t44 := Tryz.underlying208,
  a44 := Tryz.isAgg208,
  z44 := Tryz.sizeOf208,
  v44 := Tryz.zeroValue208,
  t46 := Tryz.underlying210,
  a46 := Tryz.isAgg210,
  z46 := Tryz.sizeOf210,
  v46 := Tryz.zeroValue210,
  t53 := Tryz.underlying275,
  a53 := Tryz.isAgg275,
  z53 := Tryz.sizeOf275,
  v53 := Tryz.zeroValue275,
  t57 := Tryz.underlying109,
  a57 := Tryz.isAgg109,
  z57 := Tryz.sizeOf109,
  v57 := Tryz.zeroValue109,
  t63 := Tryz.underlying306,
  a63 := Tryz.isAgg306,
  z63 := Tryz.sizeOf306,
  v63 := Tryz.zeroValue306,
  t64 := Tryz.underlying262,
  a64 := Tryz.isAgg262,
  z64 := Tryz.sizeOf262,
  v64 := Tryz.zeroValue262 }
end Go.Proofs.YtcakfaakbpdklaaGreatDoorV
namespace Go.Proofs.YtcakfaakbpdklaaGreatDoorV
open Go Go.Proofs Go.RowKit
set_option linter.unusedVariables false
set_option linter.unusedSimpArgs false
def srt (l : List Int) : List Int := l.mergeSort fun x y => decide (x ≤ y)
theorem qgp (l : List Int) : (srt l).Perm l := List.mergeSort_perm l _
theorem qh1 (l : List Int) : (srt l).length = l.length := (qgp l).length_eq
theorem qya (l : List Int) : (srt l).Pairwise (· ≤ ·) := by
  have := List.pairwise_mergeSort (le := fun (x y : Int) => decide (x ≤ y)) (fun a b c h1 h2 => by simp at *; omega) (fun a b => by simp; omega) l
  exact this.imp fun h => by simpa using h
theorem qrz {l : List Int} (h : l.Nodup) : (srt l).Pairwise (· < ·) := by
  have h1 := qya l
  have h2 : (srt l).Nodup := (qgp l).nodup_iff.2 h
  exact (h1.and h2).imp fun ⟨a, b⟩ => by omega
theorem qx9 {l k : List Int} (hk : k.Pairwise (· < ·)) (hp : k.Perm l) : srt l = k := by
  have hl : l.Nodup := hp.nodup_iff.1 (hk.imp fun h => by omega)
  have h1 := qrz hl
  have hm : ∀ x, x ∈ srt l ↔ x ∈ k := fun x => (qgp l).mem_iff.trans hp.mem_iff.symm
  generalize srt l = s at h1 hm
  clear hp hl
  induction s generalizing k with
  | nil =>
    cases k with
    | nil => rfl
    | cons y k => have := (hm y).2 (by simp); cases this
  | cons x s ih =>
    cases k with
    | nil => have := (hm x).1 (by simp); cases this
    | cons y k =>
      obtain ⟨a1, a2⟩ := List.pairwise_cons.1 h1
      obtain ⟨b1, b2⟩ := List.pairwise_cons.1 hk
      have e : x = y := by
        rcases List.mem_cons.1 ((hm x).1 (by simp)) with c | c
        · exact c
        · rcases List.mem_cons.1 ((hm y).2 (by simp)) with d | d
          · exact d.symm
          · have := b1 x c; have := a1 y d; omega
      subst e
      refine congrArg (x :: ·) (ih b2 a2 fun z => ?_)
      constructor
      · intro hz
        rcases List.mem_cons.1 ((hm z).1 (by simp [hz])) with c | c
        · subst c; have := a1 z hz; omega
        · exact c
      · intro hz
        rcases List.mem_cons.1 ((hm z).2 (by simp [hz])) with c | c
        · subst c; have := b1 z hz; omega
        · exact c
theorem qdc (l : List Int) : (qaf l).flatten = l.map (Value.int .i64) := by
  induction l with
  | nil => rfl
  | cons x l ih => simp only [qaf, List.map_cons, List.flatten_cons, List.cons_append, List.nil_append] at *; rw [ih]
theorem qfk {l : List Int} : ∀ y ∈ qaf l, ∀ u ∈ y, u.oneCell' = true := by
  intro y hy u hu
  simp only [qaf, List.mem_map] at hy
  obtain ⟨x, _, rfl⟩ := hy
  simp only [List.mem_cons, List.not_mem_nil, or_false] at hu
  subst hu
  rfl
section
variable {K : VK} {w : World}
theorem qvg {v : Value} {l : List Int} (ho : qad w v 3 1 (qaf l)) (hl : l.length ≤ 4000000000000000) (h : ∀ w', Fr (qab v) w w' → qad w' v 3 1 (qaf (srt l)) → K (.tuple #[]) w') : C.q Tryz.prog 262 #[v] w K := by
  obtain ⟨⟨h1, h2⟩, h3⟩ := ho
  rw [qaj] at h1 h2
  rcases h2 with ⟨rfl, h2⟩ | ⟨g, cap, cur, rfl, hb, hg, h4, h5, h6, h7⟩
  · have e : l = [] := List.eq_nil_of_length_eq_zero h2
    subst e
    refine (AnyM.slices_Sort_int_none que none 0 w).mono ?_
    rintro e w' ⟨rfl, rfl⟩
    exact ⟨_, rfl, h w' (Fr.refl _ _) (by
      have : srt [] = [] := by simp [srt]
      rw [this]
      exact qad.nil _ _ _)⟩
  · rw [qdc, Nat.mul_one] at h7
    have hH := holds_of_blockI hg h7
    refine (AnyM.slices_Sort_int que g 0 cap l w hH (qac hg) (by omega)).mono ?_
    rintro e w' ⟨rfl, n, os, rfl⟩
    refine ⟨_, rfl, h _ (qep (v := .slice (some ⟨g, 0, none⟩) l.length cap) (grownBy_sortedI _)) ?_⟩
    have hr := ownsRow_sortedI (n := n) (os := os) (base := 0) (ts := srt l) (qh1 l) (Nat.zero_le _) hg h4 h5 h6
    refine ⟨?_, fun x hx => ⟨?_, qfk x hx⟩⟩
    · rw [qaj, qdc, qh1]
      exact hr
    · simp only [qaf, List.mem_map] at hx
      obtain ⟨y, _, rfl⟩ := hx
      rfl
end
end Go.Proofs.YtcakfaakbpdklaaGreatDoorV
namespace Go.Proofs.YtcakfaakbpdklaaGreatDoorV
open Go Go.Proofs Go.RowKit
set_option linter.unusedVariables false
set_option linter.unusedSimpArgs false
set_option maxRecDepth 10000
section
variable {K : VK} {w : World}
theorem IsC.mb {b m c : Nat} {n : Int} {l : Pgs} (h : IsC w b m n l c) : b ≠ m := fun e => by
  subst e; have h1 := h.blk; have h2 := h.map; unfold qb8 at h2; rw [h1] at h2; cases h2
theorem qq4 {W : World} {b m c : Nat} {n t : Int} {l : Pgs} (hm0 : m < W.heap.size) (hb0 : b < W.heap.size)
    (h : ∀ v w' l' out, Fr [m] W w' → IsC w' b m n l' c → qda n t l c 5 l' out → qal W v → qad w' v 3 1 (qaf (srt out)) → K v w') :
    ∀ (d : Nat) (k : Int) (w : World) (v : Value) (l' : Pgs) (out : List Int), k + d = 5 → 1 ≤ k → Fr [m] W w → IsC w b m n l' c → qda n t l c k l' out → qal W v → qad w v 3 1 (qaf out) →
      F211.l5 K (.pointer (some ⟨b, 0, none⟩)) (.int .i64 t) v (.int .i64 k) w := by
  intro d
  induction d with
  | zero =>
    intro k w v l' out hk hk1 hf hC hD hn ho
    have e : k = 5 := by omega
    subst e
    have hlen := hD.len
    refine F211.l5.to (qbt ?_)
    simp only [C.ac, C.bl, decide_false, show csz 5 = 0 by decide, show ¬ ((0 : Int) > 0) by omega]
    refine F211.k11.to (qvg ho (by omega) fun w1 hf1 ho1 => ?_)
    have hb : b ∉ qab v := fun hg => by have := hn.blk b hg; omega
    have hm : m ∉ qab v := fun hg => by have := hn.blk m hg; omega
    exact h v w1 l' out (hf.then hf1 fun z hz => .inr (hn.blk z hz)) (hC.keep hf1 hb hm) hD hn ho1
  | succ d ih =>
    intro k w v l' out hk hk1 hf hC hD hn ho
    have k5 : k < 5 := by omega
    have hlen := hD.len
    refine F211.l5.to (qbt ?_)
    simp only [C.ah, C.bl, decide_true, qn0 hk1 k5]
    refine F211.k7.to (qp9 hC ?_)
    rcases qoa hD.kept (t, k) with ⟨p0, pon⟩ | ⟨pm, pno⟩
    · simp only [C.ah, C.af, C.ag, C.bc, Nat.zero_add, decide_true, p0]
      generalize qcu l' (t, k) = p at *
      refine C.cy ho (by omega) fun v1 w1 ho1 hf1 hg1 => ?_
      have hb : b ∉ qab v := fun hg => by have := hn.blk b hg; omega
      have hm : m ∉ qab v := fun hg => by have := hn.blk m hg; omega
      have hC1 := hC.keep hf1 hb hm
      have hn1 : qal W v1 := qj6 hn hf.size hg1
      refine C.ae (v := .map (some m)) hC1.blk rfl (C.a5 (qox t k) ?_)
      refine C.c3 qf1 Tryz.underlying245 hC1.map (t, k) (l' := qik l' (t, k)) rfl fun w2 hf2 _ hm2 => ?_
      have hm1 : m ∉ qab v1 := fun hg => by have := hn1.blk m hg; omega
      refine F211.k6.to ?_
      simp only [C.a6]
      rw [qaa (n := k + 1) (by omega)]
      refine ih (k + 1) w2 v1 (qik l' (t, k)) (out ++ [p]) (by omega) (by omega) ((hf.then hf1 fun z hz => .inr (hn.blk z hz)).trans hf2) ⟨hf2.at_ hC1.blk (by simpa using hC.mb), hm2, fun x hx => hC.int x ((qn1 _ _).subset hx)⟩ (hD.take pon) hn1
        (ho1.keep' hf2 fun g hg e => by simp only [List.mem_singleton] at e; subst e; exact hm1 hg)
    · simp only [C.ac, C.af, C.ag, C.bc, Nat.zero_add, decide_false, pm, show ¬ ((-1 : Int) ≥ 0) by omega]
      refine F211.k6.to ?_
      simp only [C.a6]
      rw [qaa (n := k + 1) (by omega)]
      exact ih (k + 1) w v l' out (by omega) (by omega) hf hC (hD.skip pno) hn ho
theorem qwi {b m c : Nat} {n t : Int} {l : Pgs} (hC : IsC w b m n l c) (hg : qch l c) (hk : qbs n l)
    (h : ∀ v w' l' out, Fr [m] w w' → IsC w' b m n l' c → qch l' c → qbs n l' → (∀ b q, On l' b q ↔ On l b q ∧ b.1 ≠ t) → (∀ q, q ∈ out ↔ ∃ j, On l (t, j) q) → out.Nodup → qal w v → qad w' v 3 1 (qaf (srt out)) → K v w') :
    C.q Tryz.prog 211 #[.pointer (some ⟨b, 0, none⟩), .int .i64 t] w K := by
  refine F211.sh ⟨_, qam _ _ _ Tryz.underlying168, ?_⟩
  simp only [C.ac]
  refine F211.k3.to (qq4 (l := l) (qac hC.map) (qac hC.blk) (fun v w' l' out hf hC' hD hn ho => ?_) 4 1 w _ l [] rfl (by omega) (Fr.refl _ _) hC (qda.start hg hk) (qal.nil _) (qad.nil _ _ _))
  obtain ⟨h1, h2⟩ := hD.fin hk
  exact h v w' l' out hf hC' hD.good hD.kept h1 h2 hD.nd hn ho
end
def qcj (w : World) (b m : Nat) (n : Int) (f : Om) : Prop := n ≤ 9 ∧ ∃ l c, IsC w b m n l c ∧ qch l c ∧ qbs n l ∧ ∀ a p, On l a p ↔ f a = some p
theorem qcj.keep {S : List Nat} {w w' : World} {b m : Nat} {n : Int} {f : Om} (h : qcj w b m n f) (hf : Fr S w w') (hb : b ∉ S) (hm : m ∉ S) : qcj w' b m n f := by
  obtain ⟨h9, l, c, h1, h2⟩ := h
  exact ⟨h9, l, c, h1.keep hf hb hm, h2⟩
theorem qrk {a : Int × Int} : a ∈ qjh ↔ 0 ≤ a.1 ∧ a.1 < 9 ∧ 1 ≤ a.2 ∧ a.2 ≤ 4 := by
  obtain ⟨t, k⟩ := a
  simp only [qjh, List.mem_flatMap, List.mem_range, List.mem_cons, List.not_mem_nil, or_false, Prod.mk.injEq]
  constructor
  · rintro ⟨x, hx, h | h | h | h⟩ <;> simp only [Int.ofNat_eq_natCast] at h <;> omega
  · rintro ⟨h1, h2, h3, h4⟩
    refine ⟨t.toNat, by omega, ?_⟩
    simp only [Int.ofNat_eq_natCast]
    omega
section
variable {K : VK} {w : World} {b m : Nat} {n : Int} {f : Om}
theorem qts {l : Pgs} (hk : qbs n l) (ho : ∀ a p, On l a p ↔ f a = some p) (a : Int × Int) : qcu l a = qfm f a := by
  unfold qfm
  rcases qoa hk a with ⟨h1, h2⟩ | ⟨h1, h2⟩
  · rw [(ho _ _).1 h2]; rfl
  · cases e : f a with
    | none => simpa using h1
    | some p => exact absurd ((ho _ _).2 e) (h2 p)
theorem qkq {c : Nat} {l : Pgs} (h9 : n ≤ 9) (hg : qch l c) (hk : qbs n l) (ho : ∀ a p, On l a p ↔ f a = some p) (p : Int) : qba l p = qb1 f p := by
  unfold qb1
  rcases qmk hg hk p with ⟨h1, h2⟩ | ⟨h1, h2⟩
  · cases e : qjh.find? (fun a => decide (f a = some p)) with
    | none =>
      have := List.find?_eq_none.1 e (qba l p) (by
        obtain ⟨i1, i2, i3, i4, _⟩ := h2.in hk
        exact qrk.2 ⟨i1, by omega, i3, by omega⟩)
      simp [(ho _ _).1 h2] at this
    | some a =>
      have e1 := List.find?_some e
      simp only [decide_eq_true_eq] at e1
      exact qml hg ((ho _ _).2 e1)
  · cases e : qjh.find? (fun a => decide (f a = some p)) with
    | none => exact h1
    | some a =>
      have e1 := List.find?_some e
      simp only [decide_eq_true_eq] at e1
      exact absurd ((ho _ _).2 e1) (h2 a)
theorem qu2 {t k : Int} (h : qcj w b m n f) (hk : K (.int .i64 (qfm f (t, k))) w) : C.q Tryz.prog 184 #[.pointer (some ⟨b, 0, none⟩), .int .i64 t, .int .i64 k] w K := by
  obtain ⟨h9, l, c, h1, h2, h3, h4⟩ := h
  refine qp9 h1 ?_
  rw [qts h3 h4]; exact hk
theorem qlk {p : Int} (h : qcj w b m n f) (hk : ∀ w', Fr [] w w' → K (.tuple #[.int .i64 (qb1 f p).1, .int .i64 (qb1 f p).2]) w') : C.q Tryz.prog 185 #[.pointer (some ⟨b, 0, none⟩), .int .i64 p] w K := by
  obtain ⟨h9, l, c, h1, h2, h3, h4⟩ := h
  refine qnn h1 h2 fun w' hf => ?_
  rw [qkq h9 h2 h3 h4]; exact hk w' hf
theorem qwt {t k p : Int} (h : qcj w b m n f)
    (h0 : ¬ (0 ≤ t ∧ t < n ∧ csz k ≠ 0 ∧ 0 ≤ p ∧ p < 64 ∧ (qb1 f p).1 < 0) → ∀ w', Fr [] w w' → K (.bool false) w')
    (h1 : (0 ≤ t ∧ t < n ∧ csz k ≠ 0 ∧ 0 ≤ p ∧ p < 64 ∧ (qb1 f p).1 < 0) → ∀ w', Fr [m] w w' → qcj w' b m n (qtt f (t, k) p) → K (.bool true) w') :
    C.q Tryz.prog 124 #[.pointer (some ⟨b, 0, none⟩), .int .i64 t, .int .i64 k, .int .i64 p] w K := by
  obtain ⟨h9, l, c, a1, a2, a3, a4⟩ := h
  rw [← qkq h9 a2 a3 a4] at h0 h1
  refine qyp a1 a2 h0 fun hc w' hf hi => h1 hc w' hf ⟨h9, _, _, hi, ?_, ?_, ?_⟩
  · obtain ⟨c1, c2, c3, c4, c5, c6⟩ := hc
    refine qtg a2 fun x hx e => ?_
    rcases qmk a2 a3 p with ⟨q1, _⟩ | ⟨_, q2⟩
    · omega
    · exact q2 x.1 ⟨x, hx, rfl, e⟩
  · obtain ⟨c1, c2, c3, c4, c5, c6⟩ := hc
    have c3 : ¬ (k < 1 ∨ k ≥ 5) := fun e => c3 (qs9.2 e)
    exact qtj a3 c1 c2 (by omega) (by omega) c4 c5
  · intro a q
    rw [qx3 a3, a4]
    unfold qtt
    by_cases e : a = (t, k)
    · rw [if_pos e]
      simp only [e, ne_eq, not_true, false_and, or_false, true_and, Option.some.injEq]
      exact eq_comm
    · rw [if_neg e]; simp [e]
theorem qvx {l : Pgs} {t : Int} {out : List Int} (hk : qbs n l) (ho : ∀ a p, On l a p ↔ f a = some p) (hs : ∀ q, q ∈ out ↔ ∃ j, On l (t, j) q) (hn : out.Nodup) (hu : ∀ a c p, On l a p → On l c p → a = c) : srt out = (qdk f t).mergeSort fun x y => decide (x ≤ y) := by
  have hg : (qdk f t).Nodup := by
    unfold qdk
    have key : ∀ i j p, f (t, i) = some p → f (t, j) = some p → i = j := fun i j p e1 e2 => by
      have := hu _ _ _ ((ho _ _).2 e1) ((ho _ _).2 e2)
      simpa using this
    have hN : ∀ l : List Int, l.Nodup → (l.filterMap fun k => f (t, k)).Nodup := by
      intro l
      induction l with
      | nil => simp
      | cons x l ih =>
        intro hl
        rw [List.nodup_cons] at hl
        rw [List.filterMap_cons]
        cases e : f (t, x) with
        | none => exact ih hl.2
        | some p =>
          simp only
          rw [List.nodup_cons]
          refine ⟨fun hm => ?_, ih hl.2⟩
          obtain ⟨j, hj, e2⟩ := List.mem_filterMap.1 hm
          exact hl.1 (key x j p e e2 ▸ hj)
    exact hN _ (by decide)
  have hp : (qdk f t).Perm out := by
    rw [List.perm_iff_count]
    intro x
    have hm : x ∈ qdk f t ↔ x ∈ out := by
      rw [hs]
      unfold qdk
      rw [List.mem_filterMap]
      constructor
      · rintro ⟨k, _, e⟩; exact ⟨k, (ho _ _).2 e⟩
      · rintro ⟨j, hj⟩
        obtain ⟨_, _, i3, i4, _⟩ := hj.in hk
        simp only at i3 i4
        refine ⟨j, ?_, (ho _ _).1 hj⟩
        simp only [List.mem_cons, List.not_mem_nil, or_false]
        omega
    rw [hg.count, hn.count]
    simp only [hm]
  exact qx9 (qrz hg) ((qgp _).trans hp)
theorem qu1 {t : Int} (h : qcj w b m n f) (hk : ∀ v w', Fr [m] w w' → qcj w' b m n (qpf f t) → qal w v → qad w' v 3 1 (qaf ((qdk f t).mergeSort fun x y => decide (x ≤ y))) → K v w') :
    C.q Tryz.prog 211 #[.pointer (some ⟨b, 0, none⟩), .int .i64 t] w K := by
  obtain ⟨h9, l, c, a1, a2, a3, a4⟩ := h
  refine qwi a1 a2 a3 fun v w' l' out hf hi hg' hk' ho hq hn hv hs => hk v w' hf ⟨h9, l', c, hi, hg', hk', fun a p => ?_⟩ hv ?_
  · rw [ho, a4]
    unfold qpf
    by_cases e : a.1 = t <;> simp [e]
  · rw [qvx a3 a4 hq hn fun a c p h1 h2 => h1.whose a2 h2] at hs; exact hs
theorem qws {t : Int} (h : ∀ b m w', Fr [] w w' → w.heap.size ≤ b → w.heap.size ≤ m → b ≠ m → qcj w' b m (if t < 0 then 0 else if t > 9 then 9 else t) (fun _ => none) → K (.pointer (some ⟨b, 0, none⟩)) w') : C.q Tryz.prog 113 #[.int .i64 t] w K :=
  qyl fun b m w' hf h1 h2 h3 hi => h b m w' hf h1 h2 h3 ⟨by repeat' split <;> omega, [], 0, hi, qtf, ⟨by simp, by simp⟩, fun a p => by simp [On]⟩
end
end Go.Proofs.YtcakfaakbpdklaaGreatDoorV
namespace Go.Proofs.YtcakfaakbpdklaaGreatDoorV
open Go Go.Proofs
set_option linter.unusedVariables false
set_option maxRecDepth 100000
noncomputable section
variable {K : VK} {w : World} {x0 x1 x2 x3 y0 y1 y2 y3 y4 y5 y7 y9 y19 y20 y21 : Value}

theorem F153.sh (h : (C.a3 (.cells #[.int .i64 0, .int .i64 0] 60) w fun a b =>
 C.ay Tryz.prog (Instr.build 60 #[(0, (.int .i64 2)), (1, x0)]) b fun c d =>
 C.q Tryz.prog 224 #[c] d fun f g =>
 C.ak 2 a f g fun i =>
 C.ao 2 a i fun r5 _ =>
 K r5 i)) : C.q Tryz.prog 153 #[x0] w K := q9 (A := A0) (args := [x0]) (qq h)
namespace F201
def ann : Ann := ⟨[(6, [2, 4]), (8, [2, 4])], [], [], [], none⟩
def code := cd Tryz.f201
def top := tp Tryz.f201
variable (K : VK) (y2 y4 : Value) (w : World)
def k6 : Prop := nk ann 24 [(2, y2), (4, y4)] w [1, 1, 1] code (top K)
def k8 : Prop := nk ann 24 [(2, y2), (4, y4)] w [1, 1, 1, 1] code (top K)
attribute [irreducible] k6 k8
end F201
theorem F201.k6.to (h : (C.ao 2 y4 w fun a b =>
 C.q Tryz.prog 227 #[a] b fun c d =>
 C.aj .neq c (.int .i64 0) d fun f g =>
 C.am f (C.ay Tryz.prog (Instr.build 60 #[]) g fun i j =>
 C.ak 2 y2 i j fun k =>
 C.ao 2 y2 k fun r6 _ =>
 K (.tuple #[r6, (.bool false)]) k) (F201.k8 K y2 y4 g))) : F201.k6 K y2 y4 w := qq h
theorem F201.k8.to (h : (C.ao 2 y4 w fun a b =>
 C.ak 2 y2 a b fun c =>
 C.ao 2 y2 c fun r3 _ =>
 K (.tuple #[r3, (.bool true)]) c)) : F201.k8 K y2 y4 w := qq h
theorem F201.sh (h : (C.a3 (.cells #[.int .i64 0, .int .i64 0] 60) w fun a b =>
 C.a3 (.cells #[.int .i64 0, .int .i64 0] 60) b fun c d =>
 C.bi Tryz.prog .and 2 (.tmp 6) (.const (.int .i64 1)) x0 (.int .i64 1) d fun f g =>
 C.aj .eql f (.int .i64 1) g fun i j =>
 C.am i (C.bi Tryz.prog .shr 2 (.tmp 9) (.const (.int .u64 1)) x0 (.int .u64 1) j fun k m =>
 C.ay Tryz.prog (Instr.build 60 #[(0, (.int .i64 1)), (1, k)]) m fun o p =>
 C.ak 2 c o p fun q =>
 F201.k6 K a c q) (C.aj .neq x0 (.int .i64 0) j fun r s =>
 C.am r (C.bi Tryz.prog .quo 2 (.tmp 15) (.const (.int .i64 2)) x0 (.int .i64 2) s fun t u =>
 C.aj .sub t (.int .i64 1) u fun v x =>
 C.ay Tryz.prog (Instr.build 60 #[(0, (.int .i64 2)), (1, v)]) x fun y z =>
 C.ak 2 c y z fun aa =>
 F201.k6 K a c aa) (F201.k6 K a c s)))) : C.q Tryz.prog 201 #[x0] w K := q9 (A := F201.ann) (args := [x0]) (qq h)
namespace F224
def ann : Ann := ⟨[(3, [1, 2])], [], [], [], none⟩
def code := cd Tryz.f224
def top := tp Tryz.f224
variable (K : VK) (y1 y2 : Value) (w : World)
def k3 : Prop := nk ann 8 [(1, y1), (2, y2)] w [1, 1] code (top K)
attribute [irreducible] k3
end F224
theorem F224.k3.to (h : (C.ao 2 y1 w fun a b =>
 C.ak 2 y2 a b fun c =>
 C.ao 2 y2 c fun r3 _ =>
 K r3 c)) : F224.k3 K y1 y2 w := qq h
theorem F224.sh (h : (C.a3 (.cells (Value.cells x0) 60) w fun a b =>
 C.a3 (.cells #[.int .i64 0, .int .i64 0] 60) b fun c d =>
 C.ao 2 a d fun f g =>
 C.q Tryz.prog 227 #[f] g fun i j =>
 C.aj .neq i (.int .i64 0) j fun k m =>
 C.am k (C.ay Tryz.prog (Instr.build 60 #[]) m fun o p =>
 C.ak 2 c o p fun q =>
 C.ao 2 c q fun r8 _ =>
 K r8 q) (F224.k3 K a c m))) : C.q Tryz.prog 224 #[x0] w K := q9 (A := F224.ann) (args := [x0]) (qq h)
namespace F227
def ann : Ann := ⟨[(10, [3]), (12, [])], [], [], [], none⟩
def code := cd Tryz.f227
def top := tp Tryz.f227
variable (K : VK) (y3 : Value) (w : World)
def k10 : Prop := nk ann 33 [(3, y3)] w [1, 1, 1] code (top K)
def k12 : Prop := nk ann 33 [] w [1, 1, 1, 1] code (top K)
attribute [irreducible] k10 k12
end F227
theorem F227.k10.to (h : (C.bg y3 w fun a b =>
 C.am a (K (.int .i64 4) b) (F227.k12 K b))) : F227.k10 K y3 w := qq h
theorem F227.k12.to (h : (K (.int .i64 0) w)) : F227.k12 K w := qq h
theorem F227.sh (h : (C.a3 (.cells (Value.cells x0) 60) w fun a b =>
 C.ab 0 a b fun c d =>
 C.ai c d fun f g =>
 C.aj .eql f (.int .i64 0) g fun i j =>
 C.am i (C.ab 1 a j fun k m =>
 C.ai k m fun o p =>
 C.aj .eql o (.int .i64 0) p fun q r =>
 F227.k10 K q r) (C.aj .eql f (.int .i64 1) j fun s t =>
 C.am s (C.ab 1 a t fun u v =>
 C.ai u v fun x y =>
 C.aj .geq x (.int .i64 (-1099511627776)) y fun z aa =>
 C.i true z (fun K => C.ab 1 a aa K) aa fun ab ac =>
 C.i true z (fun K => C.ai ab ac K) ac fun ad ae =>
 C.i true z (fun K => C.aj .lss ad (.int .i64 1099511627776) ae K) ae fun af ag =>
 C.a2 (some z) (some af) (some (.bool false)) ag fun ah ai =>
 F227.k10 K ah ai) (C.aj .eql f (.int .i64 2) t fun aj ak =>
 C.am aj (C.ab 1 a ak fun al am =>
 C.ai al am fun an ao =>
 C.aj .geq an (.int .i64 0) ao fun ap aq =>
 C.i true ap (fun K => C.ab 1 a aq K) aq fun ar au =>
 C.i true ap (fun K => C.ai ar au K) au fun av aw =>
 C.i true ap (fun K => C.aj .lss av (.int .i64 2048) aw K) aw fun ax ay =>
 C.a2 (some ap) (some ax) (some (.bool false)) ay fun az ba =>
 F227.k10 K az ba) (K (.int .i64 12) ak))))) : C.q Tryz.prog 227 #[x0] w K := q9 (A := F227.ann) (args := [x0]) (qq h)
namespace F279
def ann : Ann := ⟨[(3, [1]), (6, [1, 4, 9]), (7, [1]), (8, [1, 4]), (9, [4])], [], [], [], none⟩
def code := cd Tryz.f279
def top := tp Tryz.f279
variable (K : VK) (y1 y4 y9 : Value) (w : World)
def k3 : Prop := nk ann 21 [(1, y1)] w [1, 1] code (top K)
def k9 : Prop := nk ann 21 [(4, y4)] w [1, 1, 1, 1] code (top K)
def k8 : Prop := nk ann 21 [(1, y1), (4, y4)] w [1, 1, 1, 0, 1, 0, 1] code (top K)
def k7 : Prop := nk ann 21 [(1, y1)] w [1, 1, 1, 0, 1, 0, 0, 0, 1] code (top K)
def k6 : Prop := nk ann 21 [(1, y1), (4, y4), (9, y9)] w [1, 1, 1, 0, 1, 0, 0, 0, 0, 0, 0, 1] code (top K)
attribute [irreducible] k3 k9 k8 k7 k6
end F279
theorem F279.k3.to (h : (C.ab 0 y1 w fun a b =>
 C.ai a b fun c d =>
 C.aj .eql c (.int .i64 2) d fun f g =>
 C.am f (F279.k7 K y1 g) (F279.k6 K y1 (.int .i64 0) c g))) : F279.k3 K y1 w := qq h
theorem F279.k9.to (h : (K (.tuple #[y4, (.bool true)]) w)) : F279.k9 K y4 w := qq h
theorem F279.k8.to (h : (C.ab 1 y1 w fun a b =>
 C.ai a b fun c d =>
 C.aj .mul (.int .i64 2) c d fun f g =>
 C.aj .add f (.int .i64 1) g fun i j =>
 C.aj .add y4 i j fun k m =>
 F279.k9 K k m)) : F279.k8 K y1 y4 w := qq h
theorem F279.k7.to (h : (F279.k8 K y1 (.int .i64 1) w)) : F279.k7 K y1 w := qq h
theorem F279.k6.to (h : (C.aj .eql y9 (.int .i64 1) w fun a b =>
 C.am a (F279.k8 K y1 y4 b) (F279.k9 K y4 b))) : F279.k6 K y1 y4 y9 w := qq h
theorem F279.sh (h : (C.a3 (.cells (Value.cells x0) 60) w fun a b =>
 C.ao 2 a b fun c d =>
 C.q Tryz.prog 227 #[c] d fun f g =>
 C.aj .neq f (.int .i64 0) g fun i j =>
 C.am i (K (.tuple #[(.int .i64 0), (.bool false)]) j) (F279.k3 K a j))) : C.q Tryz.prog 279 #[x0] w K := q9 (A := F279.ann) (args := [x0]) (qq h)

theorem F42.sh (h : (C.q Tryz.prog 66 #[x1, (.int .i64 1), (.int .i64 64)] w fun a b =>
 C.q Tryz.prog 66 #[x2, (.int .i64 0), a] b fun c d =>
 C.q Tryz.prog 66 #[x0, (.int .i64 0), (.int .i64 8)] d fun f g =>
 C.ay Tryz.prog (Instr.makeSlice 139 f f) g fun i j =>
 C.ay Tryz.prog (Instr.build 141 #[(0, a), (1, c), (2, i)]) j fun k m =>
 C.a3 (.cells (Value.cells k) 141) m fun o p =>
 K o p)) : C.q Tryz.prog 42 #[x0, x1, x2] w K := q9 (A := A0) (args := [x0, x1, x2]) (qq h)
namespace F107
def ann : Ann := ⟨[(4, [0, 2, 7])], [], [], [], none⟩
def code := cd Tryz.f107
def top := tp Tryz.f107
variable (K : VK) (y0 y2 y7 : Value) (w : World)
def k4 : Prop := nk ann 33 [(0, y0), (2, y2), (7, y7)] w [1, 1, 1] code (top K)
attribute [irreducible] k4
end F107
theorem F107.k4.to (h : (C.q Tryz.prog 167 #[y0, y7, y2, (.bool false)] w fun a b =>
 C.ad y7 b fun c d =>
 C.ab 1 c d fun f g =>
 C.ai f g fun i j =>
 C.aj .add i y2 j fun k m =>
 C.ad y7 m fun o p =>
 C.ab 1 o p fun q r =>
 C.ak 1 q k r fun s =>
 K (.bool true) s)) : F107.k4 K y0 y2 y7 w := qq h
theorem F107.sh (h : (C.q Tryz.prog 166 #[x0, x1] w fun a b =>
 C.bi Tryz.prog .eql 227 (.tmp 11) (.const (.pointer none)) a (.pointer none) b fun c d =>
 C.i false c (fun K => K x2 d) d fun f g =>
 C.i false c (fun K => C.aj .lss f (.int .i64 0) g K) g fun i j =>
 C.a2 (some c) (some (.bool true)) (some i) j fun k m =>
 C.i false k (fun K => K x2 m) m fun o p =>
 C.i false k (fun K => C.aj .gtr o (.int .i64 64) p K) p fun q r =>
 C.a2 (some k) (some (.bool true)) (some q) r fun s t =>
 C.am s (K (.bool false) t) (F107.k4 K x0 x2 a t))) : C.q Tryz.prog 107 #[x0, x1, x2] w K := q9 (A := F107.ann) (args := [x0, x1, x2]) (qq h)
namespace F164
def ann : Ann := ⟨[(4, [0, 2, 7])], [], [], [(4, (.take 0 (.take 1 (.take 2 (.take 3 (.take 6 (.take 8 (.take 9 (.take 10 (.take 15 (.take 17 (.take 18 (.take 19 (.take 4 (.take 5 (.take 7 (.take 11 (.take 12 (.take 13 (.take 20 (.go 14 (.take 16 (.take 21 (.take 22 .fin))) .fin)))))))))))))))))))))], none⟩
def code := cd Tryz.f164
def top := tp Tryz.f164
variable (K : VK) (y0 y2 y7 : Value) (w : World)
def k4 : Prop := nk ann 47 [(0, y0), (2, y2), (7, y7)] w [1, 1, 1] code (top K)
attribute [irreducible] k4
end F164
theorem F164.k4.to (h : (C.a9 w fun S a =>
 C.ad y7 a fun b c =>
 C.ab 0 b c fun d f =>
 C.ad y0 f fun g i =>
 C.ab 0 g i fun j k =>
 C.ad y0 k fun m o =>
 C.ab 1 m o fun p q =>
 C.ap S d q fun r s =>
 C.bk r s fun t u =>
 C.aj .add t y2 u fun v x =>
 C.ap S j x fun y z =>
 C.aj .sub v y z fun aa ab =>
 ∃ ac, (∀ w', S w' → (builtin .max #[3, 3] 3 #[false, true] #[aa, (.int .i64 0)]).run Tryz.prog w' = .ok (.value ac) w') ∧ (C.ap S p ab fun ad ae =>
 (C.q Tryz.prog 236 #[y7, ac] ae fun af ag =>
 (S ag ∧
 C.aj .add af y2 ag fun ah ai =>
 C.aj .leq ah ad ai fun aj ak =>
 K aj ak)) ∧ True))) : F164.k4 K y0 y2 y7 w := qq h
theorem F164.sh (h : (C.q Tryz.prog 166 #[x0, x1] w fun a b =>
 C.bi Tryz.prog .eql 227 (.tmp 11) (.const (.pointer none)) a (.pointer none) b fun c d =>
 C.i false c (fun K => K x2 d) d fun f g =>
 C.i false c (fun K => C.aj .lss f (.int .i64 0) g K) g fun i j =>
 C.a2 (some c) (some (.bool true)) (some i) j fun k m =>
 C.i false k (fun K => K x2 m) m fun o p =>
 C.i false k (fun K => K x0 p) p fun q r =>
 C.i false k (fun K => C.ad q r K) r fun s t =>
 C.i false k (fun K => C.ab 1 s t K) t fun u v =>
 C.i false k (fun K => C.ai u v K) v fun x y =>
 C.i false k (fun K => C.aj .gtr o x y K) y fun z aa =>
 C.a2 (some k) (some (.bool true)) (some z) aa fun ab ac =>
 C.am ab (K (.bool false) ac) (F164.k4 K x0 x2 a ac))) : C.q Tryz.prog 164 #[x0, x1, x2] w K := q9 (A := F164.ann) (args := [x0, x1, x2]) (qq h)
namespace F166
def ann : Ann := ⟨[(3, [0, 1])], [], [], [], none⟩
def code := cd Tryz.f166
def top := tp Tryz.f166
variable (K : VK) (y0 y1 : Value) (w : World)
def k3 : Prop := nk ann 26 [(0, y0), (1, y1)] w [1, 1] code (top K)
attribute [irreducible] k3
end F166
theorem F166.k3.to (h : (C.ad y0 w fun a b =>
 C.ab 2 a b fun c d =>
 C.ai c d fun f g =>
 C.bj 3 f y1 g fun i j =>
 K i j)) : F166.k3 K y0 y1 w := qq h
theorem F166.sh (h : (C.bi Tryz.prog .eql 89 (.tmp 5) (.const (.pointer none)) x0 (.pointer none) w fun a b =>
 C.i false a (fun K => K x1 b) b fun c d =>
 C.i false a (fun K => C.aj .lss c (.int .i64 0) d K) d fun f g =>
 C.a2 (some a) (some (.bool true)) (some f) g fun i j =>
 C.i false i (fun K => K x1 j) j fun k m =>
 C.i false i (fun K => K x0 m) m fun o p =>
 C.i false i (fun K => C.ad o p K) p fun q r =>
 C.i false i (fun K => C.ab 2 q r K) r fun s t =>
 C.i false i (fun K => C.ai s t K) t fun u v =>
 C.i false i (fun K => C.bk u v K) v fun x y =>
 C.i false i (fun K => C.aj .geq k x y K) y fun z aa =>
 C.a2 (some i) (some (.bool true)) (some z) aa fun ab ac =>
 C.am ab (K (.pointer none) ac) (F166.k3 K x0 x1 ac))) : C.q Tryz.prog 166 #[x0, x1] w K := q9 (A := F166.ann) (args := [x0, x1]) (qq h)
namespace F167
def ann : Ann := ⟨[(1, [0, 1])], [], [], [(0, (.take 0 (.take 1 (.take 2 (.take 3 (.take 5 (.take 7 (.take 8 (.take 9 (.take 10 (.take 11 (.take 12 (.go 4 (.go 6 (.go 13 (.go 14 (.take 15 (.take 16 (.go 17 .fin .fin))) .fin) .fin) .fin) (.go 6 (.go 4 (.go 13 (.go 14 (.take 15 (.take 16 (.go 17 .fin .fin))) .fin) .fin) (.go 13 (.go 4 (.go 14 (.take 15 (.take 16 (.go 17 .fin .fin))) .fin) .fin) .fin)) .fin)))))))))))))), (1, (.take 0 (.take 1 (.take 2 (.take 3 (.take 5 (.take 6 (.take 7 (.take 10 (.take 11 (.take 12 (.take 13 (.go 4 (.go 8 (.take 9 (.take 14 (.take 15 (.take 16 (.go 17 (.take 18 (.take 19 (.go 20 .fin .fin))) .fin))))) .fin) (.go 8 (.take 9 (.take 14 (.take 15 (.go 4 (.take 16 (.go 17 (.take 18 (.take 19 (.go 20 .fin .fin))) .fin)) .fin)))) .fin))))))))))))))], none⟩
def code := cd Tryz.f167
def top := tp Tryz.f167
variable (K : VK) (y0 y1 : Value) (w : World)
def k1 : Prop := nk ann 45 [(0, y0), (1, y1)] w [1] code (top K)
attribute [irreducible] k1
end F167
theorem F167.k1.to (h : (C.a9 w fun S a =>
 C.ad y1 a fun b c =>
 C.ab 0 b c fun d f =>
 C.ad y1 f fun g i =>
 C.ab 0 g i fun j k =>
 C.ad y0 k fun m o =>
 C.ab 0 m o fun p q =>
 C.ap S p q fun r s =>
 (C.ai d s fun t u =>
 (S u ∧
 (C.ai j u fun v x =>
 (S x ∧
 C.bk v x fun y z =>
 C.aj .sub y r z fun aa ab =>
 ∃ ac, (∀ w', S w' → (builtin .max #[3, 3] 3 #[false, true] #[aa, (.int .i64 0)]).run Tryz.prog w' = .ok (.value ac) w') ∧ (∃ ad, (∀ w', S w' → (Instr.sliceAt 84 t (some ac) none none).run Tryz.prog w' = .ok ad w') ∧ ((C.q Tryz.prog 239 #[ad] ab fun ae af =>
 (S af ∧
 C.ad y1 af fun ag ah =>
 C.ab 0 ag ah fun ai aj =>
 (C.ak 1 ai ae aj fun ak =>
 (S ak ∧
 K (.tuple #[]) ak)) ∧ True)) ∧ True)))) ∧ True)) ∧ ((C.ai j s fun al am =>
 (S am ∧
 C.bk al am fun an ao =>
 C.aj .sub an r ao fun ap aq =>
 ∃ ar, (∀ w', S w' → (builtin .max #[3, 3] 3 #[false, true] #[ap, (.int .i64 0)]).run Tryz.prog w' = .ok (.value ar) w') ∧ ((C.ai d aq fun au av =>
 (S av ∧
 ∃ aw, (∀ w', S w' → (Instr.sliceAt 84 au (some ar) none none).run Tryz.prog w' = .ok aw w') ∧ ((C.q Tryz.prog 239 #[aw] av fun ax ay =>
 (S ay ∧
 C.ad y1 ay fun az ba =>
 C.ab 0 az ba fun bb bc =>
 (C.ak 1 bb ax bc fun bd =>
 (S bd ∧
 K (.tuple #[]) bd)) ∧ True)) ∧ True))) ∧ True))) ∧ True))) : F167.k1 K y0 y1 w := qq h
theorem F167.sh (h : (C.a9 w fun S a =>
 C.ad x1 a fun b c =>
 C.ab 0 b c fun d f =>
 C.ad x0 f fun g i =>
 C.ab 0 g i fun j k =>
 C.ap S j k fun m o =>
 ∃ p, (∀ w', S w' → (builtin .min #[3, 3] 3 #[false, false] #[x2, m]).run Tryz.prog w' = .ok (.value p) w') ∧ ((C.ai d o fun q r =>
 (S r ∧
 (C.ay Tryz.prog (Instr.buildSlice 84 1 #[(0, x3)]) r fun s t =>
 (S t ∧
 (C.q Tryz.prog 238 #[s, p] t fun u v =>
 (S v ∧
 (C.ay Tryz.prog (Builtin.append_ #[84, 84] 84 #[q, u]) v fun x y =>
 (S y ∧
 C.ad x1 y fun z aa =>
 C.ab 0 z aa fun ab ac =>
 (C.ak 1 ab x ac fun ad =>
 (S ad ∧
 F167.k1 K x0 x1 ad)) ∧ True)) ∧ True)) ∧ True)) ∧ True)) ∧ ((C.ay Tryz.prog (Instr.buildSlice 84 1 #[(0, x3)]) o fun ae af =>
 (S af ∧
 (C.ai d af fun ag ah =>
 (S ah ∧
 (C.q Tryz.prog 238 #[ae, p] ah fun ai aj =>
 (S aj ∧
 (C.ay Tryz.prog (Builtin.append_ #[84, 84] 84 #[ag, ai]) aj fun ak al =>
 (S al ∧
 C.ad x1 al fun am an =>
 C.ab 0 am an fun ao ap =>
 (C.ak 1 ao ak ap fun aq =>
 (S aq ∧
 F167.k1 K x0 x1 aq)) ∧ True)) ∧ True)) ∧ True)) ∧ ((C.q Tryz.prog 238 #[ae, p] af fun ar au =>
 (S au ∧
 (C.ai d au fun av aw =>
 (S aw ∧
 (C.ay Tryz.prog (Builtin.append_ #[84, 84] 84 #[av, ar]) aw fun ax ay =>
 (S ay ∧
 C.ad x1 ay fun az ba =>
 C.ab 0 az ba fun bb bc =>
 (C.ak 1 bb ax bc fun bd =>
 (S bd ∧
 F167.k1 K x0 x1 bd)) ∧ True)) ∧ True)) ∧ True)) ∧ True))) ∧ True)))) : C.q Tryz.prog 167 #[x0, x1, x2, x3] w K := q9 (A := F167.ann) (args := [x0, x1, x2, x3]) (qq h)
namespace F236
def ann : Ann := ⟨[(4, [5, 19, 20, 21]), (7, [5, 19, 20, 21]), (8, [5])], [(3, [5, 19, 20, 21])], [], [(2, (.take 0 (.take 1 (.take 2 (.take 4 (.take 5 (.take 6 (.take 7 (.take 13 (.take 3 (.take 8 (.take 9 (.take 10 (.take 11 (.take 12 .fin)))))))))))))))], none⟩
def code := cd Tryz.f236
def top := tp Tryz.f236
variable (K : VK) (y5 y19 y20 y21 : Value) (w : World)
def k8 : Prop := nk ann 30 [(5, y5)] w [1, 1, 1] code (top K)
def l3 : Prop := nl ann 30 [(5, y5), (19, y19), (20, y20), (21, y21)] w [1, 1, 0, 1, 0] code (top K)
def k4 : Prop := nk ann 30 [(5, y5), (19, y19), (20, y20), (21, y21)] w [1, 1, 0, 1, 0, 0, 1, 1] code (top K)
def k7 : Prop := nk ann 30 [(5, y5), (19, y19), (20, y20), (21, y21)] w [1, 1, 0, 1, 0, 0, 1, 1, 1] code (top K)
attribute [irreducible] k8 l3 k4 k7
end F236
theorem F236.k8.to (h : (K y5 w)) : F236.k8 K y5 w := qq h
theorem F236.l3.to (h : (C.aj .lss y21 y20 w fun a b =>
 C.am a (F236.k4 K y5 y19 y20 y21 b) (F236.k8 K y5 b))) : F236.l3 K y5 y19 y20 y21 w := by unfold F236.l3 nl; exact qag (qq h)
theorem F236.k4.to (h : (C.bj 1 y19 y21 w fun a b =>
 C.ai a b fun c d =>
 C.am c (C.aj .add y5 (.int .i64 1) d fun f g =>
 F236.k7 K f y19 y20 y21 g) (F236.k7 K y5 y19 y20 y21 d))) : F236.k4 K y5 y19 y20 y21 w := qq h
theorem F236.k7.to (h : (C.aj .add y21 (.int .i64 1) w fun a b =>
 F236.l3 K y5 y19 y20 a b)) : F236.k7 K y5 y19 y20 y21 w := qq h
theorem F236.sh (h : (C.a9 w fun S a =>
 C.ad x0 a fun b c =>
 C.ab 0 b c fun d f =>
 C.ad x0 f fun g i =>
 C.ab 0 g i fun j k =>
 C.ap S d k fun m o =>
 C.ap S j o fun p q =>
 C.bk p q fun r s =>
 ∃ t, (∀ w', S w' → (builtin .min #[3, 3] 3 #[false, false] #[x1, r]).run Tryz.prog w' = .ok (.value t) w') ∧ (∃ u, (∀ w', S w' → (Instr.sliceAt 84 m (some t) none none).run Tryz.prog w' = .ok u w') ∧ (C.bk u s fun v x =>
 F236.l3 K (.int .i64 0) u v (.int .i64 0) x)))) : C.q Tryz.prog 236 #[x0, x1] w K := q9 (A := F236.ann) (args := [x0, x1]) (qq h)
namespace F237
def ann : Ann := ⟨[(3, [0, 1, 2])], [], [], [], none⟩
def code := cd Tryz.f237
def top := tp Tryz.f237
variable (K : VK) (y0 y1 y2 : Value) (w : World)
def k3 : Prop := nk ann 28 [(0, y0), (1, y1), (2, y2)] w [1, 1] code (top K)
attribute [irreducible] k3
end F237
theorem F237.k3.to (h : (C.q Tryz.prog 166 #[y0, y1] w fun a b =>
 C.q Tryz.prog 167 #[y0, a, y2, (.bool true)] b fun c d =>
 C.ad a d fun f g =>
 C.ab 2 f g fun i j =>
 C.ai i j fun k m =>
 C.aj .add k y2 m fun o p =>
 C.ad a p fun q r =>
 C.ab 2 q r fun s t =>
 C.ak 1 s o t fun u =>
 K (.bool true) u)) : F237.k3 K y0 y1 y2 w := qq h
theorem F237.sh (h : (C.q Tryz.prog 164 #[x0, x1, x2] w fun a b =>
 C.bg a b fun c d =>
 C.am c (K (.bool false) d) (F237.k3 K x0 x1 x2 d))) : C.q Tryz.prog 237 #[x0, x1, x2] w K := q9 (A := F237.ann) (args := [x0, x1, x2]) (qq h)
namespace F239
def ann : Ann := ⟨[(3, [0])], [], [], [], none⟩
def code := cd Tryz.f239
def top := tp Tryz.f239
variable (K : VK) (y0 : Value) (w : World)
def k3 : Prop := nk ann 8 [(0, y0)] w [1, 1] code (top K)
attribute [irreducible] k3
end F239
theorem F239.k3.to (h : (C.ay Tryz.prog (Instr.buildSlice 84 0 #[]) w fun a b =>
 C.ay Tryz.prog (Builtin.append_ #[84, 84] 84 #[a, y0]) b fun c d =>
 K c d)) : F239.k3 K y0 w := qq h
theorem F239.sh (h : (C.bi Tryz.prog .eql 84 (.tmp 3) (.const (.slice none 0 0)) x0 (.slice none 0 0) w fun a b =>
 C.am a (K (.slice none 0 0) b) (F239.k3 K x0 b))) : C.q Tryz.prog 239 #[x0] w K := q9 (A := F239.ann) (args := [x0]) (qq h)

theorem F44.sh (h : (C.q Tryz.prog 66 #[x0, (.int .i64 0), (.int .i64 65535)] w fun a b =>
 C.ay Tryz.prog (Instr.build 145 #[(1, (.bool true)), (2, a)]) b fun c d =>
 C.a3 (.cells (Value.cells c) 145) d fun f g =>
 K f g)) : C.q Tryz.prog 44 #[x0] w K := q9 (A := A0) (args := [x0]) (qq h)
namespace F235
def ann : Ann := ⟨[(3, [0, 1])], [], [], [(4, (.take 0 (.take 1 (.take 2 (.take 3 (.take 5 (.take 4 (.go 6 (.take 7 (.take 8 (.take 9 .fin))) .fin))))))))], none⟩
def code := cd Tryz.f235
def top := tp Tryz.f235
variable (K : VK) (y0 y1 : Value) (w : World)
def k3 : Prop := nk ann 43 [(0, y0), (1, y1)] w [1, 1] code (top K)
attribute [irreducible] k3
end F235
theorem F235.k3.to (h : (C.q Tryz.prog 66 #[y1, (.int .i64 0), (.int .i64 2147483648)] w fun a b =>
 C.a9 b fun S c =>
 C.ad y0 c fun d f =>
 C.ab 4 d f fun g i =>
 C.ap S g i fun j k =>
 (C.q Tryz.prog 274 #[y0] k fun m o =>
 (S o ∧
 C.aj .sub j m o fun p q =>
 ∃ r, (∀ w', S w' → (builtin .min #[3, 3] 3 #[false, false] #[a, p]).run Tryz.prog w' = .ok (.value r) w') ∧ (C.ad y0 q fun s t =>
 C.ab 0 s t fun u v =>
 C.ab 0 u v fun x y =>
 C.ai x y fun z aa =>
 C.aj .add z r aa fun ab ac =>
 C.ad y0 ac fun ad ae =>
 C.ab 0 ad ae fun af ag =>
 C.ab 0 af ag fun ah ai =>
 C.ak 1 ah ab ai fun aj =>
 C.ad y0 aj fun ak al =>
 C.ab 0 ak al fun am an =>
 C.ab 2 am an fun ao ap =>
 C.ai ao ap fun aq ar =>
 C.aj .sub a r ar fun au av =>
 C.aj .add aq au av fun aw ax =>
 C.ad y0 ax fun ay az =>
 C.ab 0 ay az fun ba bb =>
 C.ab 2 ba bb fun bc bd =>
 C.ak 1 bc aw bd fun be =>
 K r be))) ∧ True)) : F235.k3 K y0 y1 w := qq h
theorem F235.sh (h : (C.q Tryz.prog 281 #[x0] w fun a b =>
 C.bg a b fun c d =>
 C.am c (K (.int .i64 0) d) (F235.k3 K x0 x1 d))) : C.q Tryz.prog 235 #[x0, x1] w K := q9 (A := F235.ann) (args := [x0, x1]) (qq h)

theorem F274.sh (h : (C.q Tryz.prog 301 #[x0] w fun a b =>
 C.q Tryz.prog 302 #[a] b fun c d =>
 K c d)) : C.q Tryz.prog 274 #[x0] w K := q9 (A := A0) (args := [x0]) (qq h)
namespace F275
def ann : Ann := ⟨[(3, [0, 1])], [], [], [], none⟩
def code := cd Tryz.f275
def top := tp Tryz.f275
variable (K : VK) (y0 y1 : Value) (w : World)
def k3 : Prop := nk ann 23 [(0, y0), (1, y1)] w [1, 1] code (top K)
attribute [irreducible] k3
end F275
theorem F275.k3.to (h : (C.q Tryz.prog 274 #[y0] w fun a b =>
 C.q Tryz.prog 66 #[y1, (.int .i64 0), a] b fun c d =>
 C.ad y0 d fun f g =>
 C.ab 0 f g fun i j =>
 C.ab 1 i j fun k m =>
 C.ai k m fun o p =>
 C.aj .add o c p fun q r =>
 C.ad y0 r fun s t =>
 C.ab 0 s t fun u v =>
 C.ab 1 u v fun x y =>
 C.ak 1 x q y fun z =>
 K c z)) : F275.k3 K y0 y1 w := qq h
theorem F275.sh (h : (C.q Tryz.prog 281 #[x0] w fun a b =>
 C.bg a b fun c d =>
 C.am c (K (.int .i64 0) d) (F275.k3 K x0 x1 d))) : C.q Tryz.prog 275 #[x0, x1] w K := q9 (A := F275.ann) (args := [x0, x1]) (qq h)

theorem F281.sh (h : (C.bi Tryz.prog .neq 91 (.tmp 3) (.const (.pointer none)) x0 (.pointer none) w fun a b =>
 C.i true a (fun K => K x0 b) b fun c d =>
 C.i true a (fun K => C.ad c d K) d fun f g =>
 C.i true a (fun K => C.ab 3 f g K) g fun i j =>
 C.i true a (fun K => C.ai i j K) j fun k m =>
 C.a2 (some a) (some k) (some (.bool false)) m fun o p =>
 K o p)) : C.q Tryz.prog 281 #[x0] w K := q9 (A := A0) (args := [x0]) (qq h)
namespace F301
def ann : Ann := ⟨[(3, [0])], [], [], [], none⟩
def code := cd Tryz.f301
def top := tp Tryz.f301
variable (K : VK) (y0 : Value) (w : World)
def k3 : Prop := nk ann 11 [(0, y0)] w [1, 1] code (top K)
attribute [irreducible] k3
end F301
theorem F301.k3.to (h : (C.ad y0 w fun a b =>
 C.ab 0 a b fun c d =>
 K c d)) : F301.k3 K y0 w := qq h
theorem F301.sh (h : (C.q Tryz.prog 281 #[x0] w fun a b =>
 C.bg a b fun c d =>
 C.am c (C.ay Tryz.prog (Instr.build 143 #[]) d fun f g =>
 C.a3 (.cells (Value.cells f) 143) g fun i j =>
 K i j) (F301.k3 K x0 d))) : C.q Tryz.prog 301 #[x0] w K := q9 (A := F301.ann) (args := [x0]) (qq h)
namespace F302
def ann : Ann := ⟨[], [], [], [(1, (.take 0 (.take 1 (.take 2 (.take 4 (.take 5 (.take 6 (.take 3 (.take 7 (.take 8 (.take 9 .fin)))))))))))], none⟩
end F302
theorem F302.sh (h : (C.a9 w fun S a =>
 C.ad x0 a fun b c =>
 C.ab 0 b c fun d f =>
 C.ad x0 f fun g i =>
 C.ab 1 g i fun j k =>
 C.ap S d k fun m o =>
 C.ap S j o fun p q =>
 C.aj .sub m p q fun r s =>
 K r s)) : C.q Tryz.prog 302 #[x0] w K := q9 (A := F302.ann) (args := [x0]) (qq h)
end
end Go.Proofs.YtcakfaakbpdklaaGreatDoorV
namespace Go.Proofs.YtcakfaakbpdklaaGreatDoorV
open Go Go.Proofs
set_option linter.unusedVariables false
set_option linter.unusedSimpArgs false
def V (k n : Int) : Value := .agg #[.int .i64 k, .int .i64 n]
def vB (k n : Int) : Obj := .cells #[.int .i64 k, .int .i64 n] 60 (0, 0)
theorem qy6 (a : Int) (h : a % 2 = 0) : a.tdiv 2 = a / 2 := Int.tdiv_eq_ediv_of_dvd (Int.dvd_of_emod_eq_zero h)
theorem qak {k n : Int} : ∀ v ∈ (V k n).cells.toList, v.oneCell' = true := by
  intro v hv
  simp only [V, Value.cells, List.mem_cons, List.not_mem_nil, or_false] at hv
  rcases hv with rfl | rfl <;> rfl
section
variable {K : VK} {w : World}
theorem veq (x y : Operand) (a b c d : Int) : (do eqGuard .eql 60 x y (V a b) (V c d); binOp .eql 60 (V a b) (V c d) : Sem Value).run Tryz.prog w = .ok (.bool (decide (a = c ∧ b = d))) w := by
  have h := qn3 (w := w) (ks := [.i64, .i64]) x y Tryz.underlying60 (by kernel_rfl) (by kernel_rfl) (by kernel_rfl) [a, b] [c, d] rfl rfl
  have e : ([a, b] == [c, d]) = decide (a = c ∧ b = d) := by rw [Bool.eq_iff_iff]; simp
  rw [e] at h
  exact h
theorem qi5 (a b : Int) : (Instr.build 60 #[(0, .int .i64 a), (1, .int .i64 b)]).run Tryz.prog w = .ok (V a b) w := by kernel_rfl
theorem qcl : (Instr.build 60 #[]).run Tryz.prog w = .ok (V 0 0) w := by kernel_rfl
theorem qd0 (k n : Int) (h : ∀ w', Fr [] w w' → K (.int .i64 (chk k n)) w') : C.q Tryz.prog 227 #[V k n] w K := by
  refine F227.sh (C.av fun b w1 hn => ?_)
  have hb : w1.heap[b]? = some (vB k n) := hn.at_
  have h := h w1 hn.fr
  unfold chk at h
  try simp only [C.af, Nat.zero_add]
  refine C.ae (v := .int .i64 k) hb rfl ?_
  by_cases k0 : k = 0
  · simp only [C.ah, C.az, eq_self, decide_true, k0]
    refine C.ae (v := .int .i64 n) hb rfl ?_
    rw [if_pos k0] at h
    refine (C.az ..).2 (F227.k10.to ?_)
    by_cases n0 : n = 0
    · rw [if_pos n0] at h
      simp only [C.ac, C.aq, Bool.not_true, eq_self, decide_true, n0]
      exact F227.k12.to h
    · rw [if_neg n0] at h
      simp only [C.ah, C.aq, Bool.not_false, decide_false, n0]
      exact h
  · rw [if_neg k0] at h
    by_cases k1 : k = 1
    · rw [if_pos k1] at h
      simp only [C.ah, C.ac, C.az, eq_self, decide_true, decide_false, k1, show ¬ (1 : Int) = 0 by decide]
      refine C.ae (v := .int .i64 n) hb rfl ?_
      try simp only [C.bc]
      by_cases h1 : n ≥ -1099511627776
      · simp only [C.aw, C.al, decide_true, h1]
        refine C.ae (v := .int .i64 n) hb rfl ?_
        try simp only [C.au]
        refine F227.k10.to ?_
        by_cases h2 : n < 1099511627776
        · rw [if_pos ⟨h1, h2⟩] at h
          simp only [C.ac, C.aq, Bool.not_true, decide_true, h2]
          exact F227.k12.to h
        · rw [if_neg (by omega)] at h
          simp only [C.ah, C.aq, Bool.not_false, decide_false, h2]
          exact h
      · rw [if_neg (by omega)] at h
        simp only [C.ar, C.bf, decide_false, h1]
        refine F227.k10.to ?_
        try simp only [C.ah, C.aq, Bool.not_false]
        exact h
    · rw [if_neg k1] at h
      by_cases k2 : k = 2
      · rw [if_pos k2] at h
        simp only [C.ah, C.ac, C.az, eq_self, decide_true, decide_false, k2, show ¬ (2 : Int) = 0 by decide, show ¬ (2 : Int) = 1 by decide]
        refine C.ae (v := .int .i64 n) hb rfl ?_
        try simp only [C.bc]
        by_cases h1 : n ≥ 0
        · simp only [C.aw, C.al, decide_true, h1]
          refine C.ae (v := .int .i64 n) hb rfl ?_
          try simp only [C.au]
          refine F227.k10.to ?_
          by_cases h2 : n < 2048
          · rw [if_pos ⟨h1, h2⟩] at h
            simp only [C.ac, C.aq, Bool.not_true, decide_true, h2]
            exact F227.k12.to h
          · rw [if_neg (by omega)] at h
            simp only [C.ah, C.aq, Bool.not_false, decide_false, h2]
            exact h
        · rw [if_neg (by omega)] at h
          simp only [C.ar, C.bf, decide_false, h1]
          refine F227.k10.to ?_
          try simp only [C.ah, C.aq, Bool.not_false]
          exact h
      · rw [if_neg k2] at h
        simp only [C.ac, C.az, decide_false, k0, k1, k2]
        exact h
theorem qmx {k n : Int} (h : chk k n = 0) (hk : k = 1 ∨ k = 2) : -1099511627776 ≤ n ∧ n < 1099511627776 := by
  unfold chk at h
  rcases hk with rfl | rfl
  · simp at h; omega
  · simp at h; omega
theorem qwx (k n : Int) (hc : chk k n ≠ 0) (h : ∀ w', Fr [] w w' → K (.tuple #[.int .i64 0, .bool false]) w') : C.q Tryz.prog 279 #[V k n] w K := by
  refine F279.sh (C.av fun b w1 hn => C.ax hn.at_ rfl (qd0 k n fun w2 hf2 => ?_))
  simp only [C.ah, C.be, decide_true, ne_eq, hc, not_false_eq_true]
  exact h w2 (hn.fr.trans hf2)
theorem qva (k n : Int) (hc : chk k n = 0) (h : ∀ w', Fr [] w w' → K (.tuple #[.int .i64 (qmo k n), .bool true]) w') : C.q Tryz.prog 279 #[V k n] w K := by
  refine F279.sh (C.av fun b w1 hn => C.ax hn.at_ rfl (qd0 k n fun w2 hf2 => ?_))
  have hb : w2.heap[b]? = some (vB k n) := hf2.at_ hn.at_ (by simp)
  have h := h w2 (hn.fr.trans hf2)
  simp only [C.ac, C.be, eq_self, decide_false, ne_eq, hc, not_true_eq_false]
  refine F279.k3.to ?_
  try simp only [C.af, Nat.zero_add]
  refine C.ae (v := .int .i64 k) hb rfl ?_
  unfold qmo at h
  by_cases k2 : k = 2
  · have hn := qmx hc (.inr k2)
    rw [if_pos k2] at h
    simp only [C.ah, C.az, eq_self, decide_true, k2]
    refine F279.k7.to (F279.k8.to ?_)
    try simp only [C.af, Nat.zero_add]
    refine C.ae (v := .int .i64 n) hb rfl ?_
    try simp only [C.a6, C.bq]
    rw [qaa (n := 2 * n) (by omega), qaa (n := 2 * n + 1) (by omega), qaa (n := 1 + (2 * n + 1)) (by omega)]
    refine F279.k9.to ?_
    rw [show 1 + (2 * n + 1) = 2 * n + 2 by omega]
    exact h
  · rw [if_neg k2] at h
    simp only [C.ac, C.az, decide_false, k2]
    refine F279.k6.to ?_
    by_cases k1 : k = 1
    · have hn := qmx hc (.inl k1)
      rw [if_pos k1] at h
      simp only [C.ah, C.az, eq_self, decide_true, k1]
      refine F279.k8.to ?_
      try simp only [C.af, Nat.zero_add]
      refine C.ae (v := .int .i64 n) hb rfl ?_
      try simp only [C.a6, C.bq]
      rw [qaa (n := 2 * n) (by omega), qaa (n := 2 * n + 1) (by omega), qaa (n := 0 + (2 * n + 1)) (by omega)]
      refine F279.k9.to ?_
      rw [show 0 + (2 * n + 1) = 2 * n + 1 by omega]
      exact h
    · rw [if_neg k1] at h
      simp only [C.ac, C.az, decide_false, k1]
      exact F279.k9.to h
theorem qgz {b r : Nat} {k n : Int} (hb : w.heap[b]? = some (vB k n)) (hr : w.heap[r]? = some (vB 0 0))
    (h1 : chk k n = 0 → ∀ w', Fr [r] w w' → K (.tuple #[V k n, .bool true]) w') (h2 : chk k n ≠ 0 → ∀ w', Fr [r] w w' → K (.tuple #[V 0 0, .bool false]) w') :
    F201.k6 K (.pointer (some ⟨r, 0, none⟩)) (.pointer (some ⟨b, 0, none⟩)) w := by
  refine F201.k6.to (C.ax hb rfl (qd0 k n fun w1 hf1 => ?_))
  have hr1 := hf1.at_ hr (by simp)
  by_cases hc : chk k n = 0
  · simp only [C.ac, C.be, eq_self, decide_false, ne_eq, hc, not_true_eq_false]
    refine F201.k8.to (C.ax (hf1.at_ hb (by simp)) rfl (C.a1 hr1 rfl qak rfl fun w2 hu => C.ax hu.at_ rfl ?_))
    exact h1 hc w2 (hf1.w.trans hu.fr)
  · simp only [C.ah, C.be, decide_true, ne_eq, hc, not_false_eq_true]
    refine C.a5 qcl (C.a1 hr1 rfl qak rfl fun w2 hu => C.ax hu.at_ rfl ?_)
    exact h2 hc w2 (hf1.w.trans hu.fr)
theorem qw2 (a : Int) (ha : -9223372036854775808 ≤ a ∧ a ≤ 9223372036854775807) (h1 : chk (rdK a) (rdN a) = 0 → ∀ w', Fr [] w w' → K (.tuple #[V (rdK a) (rdN a), .bool true]) w') (h2 : chk (rdK a) (rdN a) ≠ 0 → ∀ w', Fr [] w w' → K (.tuple #[V 0 0, .bool false]) w') :
    C.q Tryz.prog 201 #[.int .i64 a] w K := by
  refine F201.sh (C.av fun r w1 hn1 => C.av fun b w2 hn2 => ⟨_, qlt _ _ _, ?_⟩)
  have hr : w2.heap[r]? = some (vB 0 0) := hn2.fr.at_ hn1.at_ (by simp)
  have hb : w2.heap[b]? = some (vB 0 0) := hn2.at_
  have hrb : r ≠ b := hn2.ne (qac hn1.at_)
  have lr : w.heap.size ≤ r := by have := hn1.is; omega
  have lb : w.heap.size ≤ b := by have := hn2.is; have := hn1.fr.size; omega
  have hf : Fr [] w w2 := hn1.fr.trans hn2.fr
  unfold rdK rdN at h1 h2
  by_cases o : a % 2 = 1
  · simp only [if_pos o] at h1 h2
    simp only [C.ah, C.az, C.be, eq_self, decide_true, o]
    refine ⟨_, qt0 _ _ _, C.a5 (qi5 _ _) (C.a1 hb rfl qak rfl fun w3 hu => ?_)⟩
    have hf3 : Fr [] w w3 := hf.then hu.fr (by simp; omega)
    exact qgz hu.at_ (hu.fr.at_ hr (by simp; omega)) (fun hc w' hf' => h1 hc w' (hf3.then hf' (by simp; omega))) (fun hc w' hf' => h2 hc w' (hf3.then hf' (by simp; omega)))
  · simp only [if_neg o] at h1 h2
    simp only [C.ac, C.az, C.be, decide_false, o]
    by_cases z : a = 0
    · simp only [if_pos z] at h1 h2
      simp only [z, ne_eq, not_true_eq_false, C.ac, eq_self, decide_false]
      exact qgz hb hr (fun hc w' hf' => h1 hc w' (hf.then hf' (by simp; omega))) (fun hc w' hf' => h2 hc w' (hf.then hf' (by simp; omega)))
    · simp only [if_neg z] at h1 h2
      simp only [z, ne_eq, not_false_eq_true, C.ah, decide_true]
      have e2 := qy6 a (by omega)
      refine ⟨_, qbr _ _ _ _ (by decide), ?_⟩
      rw [qaa (n := a.tdiv 2) (by omega)]
      try simp only [C.bo]
      rw [qaa (n := a.tdiv 2 - 1) (by omega)]
      refine C.a5 (qi5 _ _) (C.a1 hb rfl qak rfl fun w3 hu => ?_)
      have hf3 : Fr [] w w3 := hf.then hu.fr (by simp; omega)
      exact qgz hu.at_ (hu.fr.at_ hr (by simp; omega)) (fun hc w' hf' => h1 hc w' (hf3.then hf' (by simp; omega))) (fun hc w' hf' => h2 hc w' (hf3.then hf' (by simp; omega)))
theorem qs6 {k n : Int} (h : chk k n = 0) : (k = 0 ∧ n = 0) ∨ (k = 1 ∧ -1099511627776 ≤ n ∧ n < 1099511627776) ∨ (k = 2 ∧ 0 ≤ n ∧ n < 2048) := by
  unfold chk at h
  split at h
  · split at h <;> omega
  · split at h
    · split at h <;> omega
    · split at h
      · split at h <;> omega
      · omega
end
end Go.Proofs.YtcakfaakbpdklaaGreatDoorV
namespace Go.Proofs.YtcakfaakbpdklaaGreatDoorV
open Go Go.Proofs
set_option linter.unusedVariables false
set_option maxRecDepth 100000
noncomputable section
variable {K : VK} {w : World} {x0 x1 x2 x3 y0 y1 y2 y5 y6 y8 y9 y10 y11 y12 y13 y16 y17 y18 : Value}

theorem F73.sh (h : (C.q Tryz.prog 112 #[x0] w fun a b =>
 C.q Tryz.prog 113 #[x1] b fun c d =>
 C.ay Tryz.prog (Instr.build 171 #[(0, a), (1, c)]) d fun f g =>
 C.a3 (.cells (Value.cells f) 171) g fun i j =>
 C.ad i j fun k m =>
 C.ab 0 k m fun o p =>
 C.ai o p fun q r =>
 C.q Tryz.prog 114 #[q] r fun s t =>
 C.ad i t fun u v =>
 C.ab 3 u v fun x y =>
 C.ak 1 x s y fun z =>
 C.ay Tryz.prog (Builtin.max_ #[3, 3] 3 #[x1, (.int .i64 0)]) z fun aa ab =>
 C.ay Tryz.prog (Builtin.min_ #[3, 3] 3 #[aa, (.int .i64 9)]) ab fun ac ad =>
 C.ad i ad fun ae af =>
 C.ab 2 ae af fun ag ah =>
 C.ak 1 ag ac ah fun ai =>
 K i ai)) : C.q Tryz.prog 73 #[x0, x1] w K := q9 (A := A0) (args := [x0, x1]) (qq h)
namespace F79
def ann : Ann := ⟨[(10, [0, 2, 9]), (11, [0, 1, 2, 8]), (14, [0, 1, 2, 8]), (17, [0, 1, 2, 8, 13])], [], [], [(7, (.take 0 (.take 1 (.take 2 (.take 4 (.take 3 (.go 5 (.go 6 (.take 7 (.take 8 (.take 9 (.take 10 (.take 11 .fin))))) .fin) .fin)))))))], none⟩
def code := cd Tryz.f79
def top := tp Tryz.f79
variable (K : VK) (y0 y1 y2 y8 y9 y13 : Value) (w : World)
def k11 : Prop := nk ann 90 [(0, y0), (1, y1), (2, y2), (8, y8)] w [1, 1, 1] code (top K)
def k10 : Prop := nk ann 90 [(0, y0), (2, y2), (9, y9)] w [1, 1, 0, 0, 1, 1, 1, 1, 1, 0, 1, 1] code (top K)
def k14 : Prop := nk ann 90 [(0, y0), (1, y1), (2, y2), (8, y8)] w [1, 1, 1, 1] code (top K)
def k17 : Prop := nk ann 90 [(0, y0), (1, y1), (2, y2), (8, y8), (13, y13)] w [1, 1, 1, 1, 1, 1] code (top K)
attribute [irreducible] k11 k10 k14 k17
end F79
theorem F79.k11.to (h : (C.q Tryz.prog 122 #[y0, y1, y2] w fun a b =>
 C.a0 0 a b fun c d =>
 C.a0 1 a d fun f g =>
 C.am f (K (.tuple #[c, (.int .i64 0)]) g) (F79.k14 K y0 y1 y2 y8 g))) : F79.k11 K y0 y1 y2 y8 w := qq h
theorem F79.k10.to (h : (C.q Tryz.prog 121 #[y0, y9, y2] w fun a b =>
 K (.tuple #[a, (.int .i64 0)]) b)) : F79.k10 K y0 y2 y9 w := qq h
theorem F79.k14.to (h : (C.q Tryz.prog 123 #[y0, y8] w fun a b =>
 C.a0 0 a b fun c d =>
 C.a0 1 a d fun f g =>
 C.bg f g fun i j =>
 C.am i (K (.tuple #[(.int .i64 0), (.int .i64 10)]) j) (F79.k17 K y0 y1 y2 y8 c j))) : F79.k14 K y0 y1 y2 y8 w := qq h
theorem F79.k17.to (h : (C.ad y0 w fun a b =>
 C.ab 1 a b fun c d =>
 C.ai c d fun f g =>
 C.q Tryz.prog 124 #[f, y1, y8, y13] g fun i j =>
 C.q Tryz.prog 122 #[y0, y1, y2] j fun k m =>
 C.a0 0 k m fun o p =>
 C.a0 1 k p fun q r =>
 K (.tuple #[o, (.int .i64 0)]) r)) : F79.k17 K y0 y1 y2 y8 y13 w := qq h
theorem F79.sh (h : (C.q Tryz.prog 117 #[x2] w fun a b =>
 C.q Tryz.prog 118 #[x0] b fun c d =>
 C.bg c d fun f g =>
 C.am f (K (.tuple #[(.int .i64 0), (.int .i64 9)]) g) (C.aj .eql a (.int .i64 0) g fun i j =>
 C.i false i (fun K => K x1 j) j fun k m =>
 C.i false i (fun K => C.aj .lss k (.int .i64 0) m K) m fun o p =>
 C.a2 (some i) (some (.bool true)) (some o) p fun q r =>
 C.i false q (fun K => K x1 r) r fun s t =>
 C.i false q (fun K => K x0 t) t fun u v =>
 C.i false q (fun K => C.ad u v K) v fun x y =>
 C.i false q (fun K => C.ab 2 x y K) y fun z aa =>
 C.i false q (fun K => C.ai z aa K) aa fun ab ac =>
 C.i false q (fun K => C.aj .geq s ab ac K) ac fun ad ae =>
 C.a2 (some q) (some (.bool true)) (some ad) ae fun af ag =>
 C.am af (K (.tuple #[(.int .i64 0), (.int .i64 4)]) ag) (C.aj .eql a (.int .i64 5) ag fun ah ai =>
 C.am ah (C.a9 ai fun S aj =>
 C.ad x0 aj fun ak al =>
 C.ab 0 ak al fun am an =>
 C.ap S am an fun ao ap =>
 (C.q Tryz.prog 120 #[x2] ap fun aq ar =>
 (S ar ∧
 (C.q Tryz.prog 119 #[ao, aq] ar fun au av =>
 (S av ∧
 C.a0 0 au av fun aw ax =>
 C.a0 1 au ax fun ay az =>
 C.bg ay az fun ba bb =>
 C.am ba (K (.tuple #[(.int .i64 0), (.int .i64 10)]) bb) (F79.k10 K x0 x2 aw bb))) ∧ True)) ∧ True) (F79.k11 K x0 x1 x2 a ai))))) : C.q Tryz.prog 79 #[x0, x1, x2] w K := q9 (A := F79.ann) (args := [x0, x1, x2]) (qq h)

theorem F89.sh (h : (C.q Tryz.prog 127 #[x0, x1] w fun a b =>
 C.a0 0 a b fun c d =>
 C.a0 1 a d fun f g =>
 K c g)) : C.q Tryz.prog 89 #[x0, x1] w K := q9 (A := A0) (args := [x0, x1]) (qq h)
namespace F92
def ann : Ann := ⟨[(3, [0])], [], [], [], none⟩
def code := cd Tryz.f92
def top := tp Tryz.f92
variable (K : VK) (y0 : Value) (w : World)
def k3 : Prop := nk ann 11 [(0, y0)] w [1, 1] code (top K)
attribute [irreducible] k3
end F92
theorem F92.k3.to (h : (C.ad y0 w fun a b =>
 C.ab 0 a b fun c d =>
 C.ai c d fun f g =>
 C.q Tryz.prog 130 #[f] g fun i j =>
 K i j)) : F92.k3 K y0 w := qq h
theorem F92.sh (h : (C.q Tryz.prog 118 #[x0] w fun a b =>
 C.bg a b fun c d =>
 C.am c (K (.slice none 0 0) d) (F92.k3 K x0 d))) : C.q Tryz.prog 92 #[x0] w K := q9 (A := F92.ann) (args := [x0]) (qq h)

theorem F118.sh (h : (C.bi Tryz.prog .neq 118 (.tmp 3) (.const (.pointer none)) x0 (.pointer none) w fun a b =>
 C.i true a (fun K => K x0 b) b fun c d =>
 C.i true a (fun K => C.ad c d K) d fun f g =>
 C.i true a (fun K => C.ab 0 f g K) g fun i j =>
 C.i true a (fun K => C.ai i j K) j fun k m =>
 C.i true a (fun K => C.bi Tryz.prog .neq 166 (.tmp 9) (.const (.pointer none)) k (.pointer none) m K) m fun o p =>
 C.a2 (some a) (some o) (some (.bool false)) p fun q r =>
 K q r)) : C.q Tryz.prog 118 #[x0] w K := q9 (A := A0) (args := [x0]) (qq h)

theorem F121.sh (h : (C.ad x0 w fun a b =>
 C.ab 4 a b fun c d =>
 C.ai c d fun f g =>
 C.q Tryz.prog 180 #[f, x2] g fun i j =>
 C.a0 0 i j fun k m =>
 C.a0 1 i m fun o p =>
 C.ad x0 p fun q r =>
 C.ab 0 q r fun s t =>
 C.ai s t fun u v =>
 C.q Tryz.prog 181 #[u, x1, k] v fun x y =>
 C.ad x0 y fun z aa =>
 C.ab 4 z aa fun ab ac =>
 C.ai ab ac fun ad ae =>
 C.aj .add ad (.int .i64 1) ae fun af ag =>
 C.ad x0 ag fun ah ai =>
 C.ab 4 ah ai fun aj ak =>
 C.ak 1 aj af ak fun al =>
 K x1 al)) : C.q Tryz.prog 121 #[x0, x1, x2] w K := q9 (A := A0) (args := [x0, x1, x2]) (qq h)
namespace F122
def ann : Ann := ⟨[(3, [0, 1, 2]), (6, [0, 2, 8])], [], [], [(3, (.take 0 (.take 1 (.take 2 (.take 4 (.take 5 (.take 6 (.take 8 (.take 9 (.take 3 (.take 7 (.go 10 (.go 11 (.go 12 (.take 13 (.take 14 (.take 15 (.take 16 (.take 17 .fin))))) .fin) .fin) .fin))))))))))))], none⟩
def code := cd Tryz.f122
def top := tp Tryz.f122
variable (K : VK) (y0 y1 y2 y8 : Value) (w : World)
def k3 : Prop := nk ann 40 [(0, y0), (1, y1), (2, y2)] w [1, 1] code (top K)
def k6 : Prop := nk ann 40 [(0, y0), (2, y2), (8, y8)] w [1, 1, 1, 1] code (top K)
attribute [irreducible] k3 k6
end F122
theorem F122.k3.to (h : (C.a9 w fun S a =>
 C.ad y0 a fun b c =>
 C.ab 0 b c fun d f =>
 C.ad y0 f fun g i =>
 C.ab 1 g i fun j k =>
 C.ap S d k fun m o =>
 C.ap S j o fun p q =>
 (C.q Tryz.prog 117 #[y2] q fun r s =>
 (S s ∧
 (C.q Tryz.prog 184 #[p, y1, r] s fun t u =>
 (S u ∧
 (C.q Tryz.prog 183 #[m, t] u fun v x =>
 (S x ∧
 C.a0 0 v x fun y z =>
 C.a0 1 v z fun aa ab =>
 C.bg aa ab fun ac ad =>
 C.am ac (K (.tuple #[(.int .i64 0), (.bool false)]) ad) (F122.k6 K y0 y2 y ad))) ∧ True)) ∧ True)) ∧ True)) : F122.k3 K y0 y1 y2 w := qq h
theorem F122.k6.to (h : (C.q Tryz.prog 121 #[y0, y8, y2] w fun a b =>
 K (.tuple #[a, (.bool true)]) b)) : F122.k6 K y0 y2 y8 w := qq h
theorem F122.sh (h : (C.q Tryz.prog 118 #[x0] w fun a b =>
 C.bg a b fun c d =>
 C.i false c (fun K => K x2 d) d fun f g =>
 C.i false c (fun K => C.q Tryz.prog 182 #[f] g K) g fun i j =>
 C.i false c (fun K => C.bg i j K) j fun k m =>
 C.a2 (some c) (some (.bool true)) (some k) m fun o p =>
 C.am o (K (.tuple #[(.int .i64 0), (.bool false)]) p) (F122.k3 K x0 x1 x2 p))) : C.q Tryz.prog 122 #[x0, x1, x2] w K := q9 (A := F122.ann) (args := [x0, x1, x2]) (qq h)
namespace F123
def ann : Ann := ⟨[(3, [0, 1, 12, 13]), (7, [0, 1, 12, 13]), (8, [0, 1])], [(2, [0, 1, 12, 13])], [], [], none⟩
def code := cd Tryz.f123
def top := tp Tryz.f123
variable (K : VK) (y0 y1 y12 y13 : Value) (w : World)
def k8 : Prop := nk ann 56 [(0, y0), (1, y1)] w [1, 1] code (top K)
def l2 : Prop := nl ann 56 [(0, y0), (1, y1), (12, y12), (13, y13)] w [1, 0, 1, 0] code (top K)
def k3 : Prop := nk ann 56 [(0, y0), (1, y1), (12, y12), (13, y13)] w [1, 0, 1, 0, 0, 1, 1] code (top K)
def k7 : Prop := nk ann 56 [(0, y0), (1, y1), (12, y12), (13, y13)] w [1, 0, 1, 0, 0, 1, 1, 1] code (top K)
attribute [irreducible] k8 l2 k3 k7
end F123
theorem F123.k8.to (h : (C.ad y0 w fun a b =>
 C.ab 0 a b fun c d =>
 C.ai c d fun f g =>
 C.q Tryz.prog 188 #[f, y1] g fun i j =>
 C.a0 0 i j fun k m =>
 C.a0 1 i m fun o p =>
 K (.tuple #[k, o]) p)) : F123.k8 K y0 y1 w := qq h
theorem F123.l2.to (h : (C.aj .lss y13 y12 w fun a b =>
 C.am a (F123.k3 K y0 y1 y12 y13 b) (F123.k8 K y0 y1 b))) : F123.l2 K y0 y1 y12 y13 w := by unfold F123.l2 nl; exact qag (qq h)
theorem F123.k3.to (h : (C.ad y0 w fun a b =>
 C.ab 1 a b fun c d =>
 C.ai c d fun f g =>
 C.q Tryz.prog 185 #[f, y13] g fun i j =>
 C.a0 0 i j fun k m =>
 C.a0 1 i m fun o p =>
 C.aj .lss k (.int .i64 0) p fun q r =>
 C.i true q (fun K => K y0 r) r fun s t =>
 C.i true q (fun K => C.ad s t K) t fun u v =>
 C.i true q (fun K => C.ab 0 u v K) v fun x y =>
 C.i true q (fun K => C.ai x y K) y fun z aa =>
 C.i true q (fun K => K y13 aa) aa fun ab ac =>
 C.i true q (fun K => C.q Tryz.prog 186 #[z, ab] ac K) ac fun ad ae =>
 C.i true q (fun K => K y1 ae) ae fun af ag =>
 C.i true q (fun K => C.aj .eql ad af ag K) ag fun ah ai =>
 C.a2 (some q) (some ah) (some (.bool false)) ai fun aj ak =>
 C.i true aj (fun K => K y0 ak) ak fun al am =>
 C.i true aj (fun K => C.ad al am K) am fun an ao =>
 C.i true aj (fun K => C.ab 0 an ao K) ao fun ap aq =>
 C.i true aj (fun K => C.ai ap aq K) aq fun ar au =>
 C.i true aj (fun K => K y13 au) au fun av aw =>
 C.i true aj (fun K => C.q Tryz.prog 187 #[ar, av] aw K) aw fun ax ay =>
 C.i true aj (fun K => C.aj .gtr ax (.int .i64 0) ay K) ay fun az ba =>
 C.a2 (some aj) (some az) (some (.bool false)) ba fun bb bc =>
 C.am bb (K (.tuple #[y13, (.bool true)]) bc) (F123.k7 K y0 y1 y12 y13 bc))) : F123.k3 K y0 y1 y12 y13 w := qq h
theorem F123.k7.to (h : (C.aj .add y13 (.int .i64 1) w fun a b =>
 F123.l2 K y0 y1 y12 a b)) : F123.k7 K y0 y1 y12 y13 w := qq h
theorem F123.sh (h : (C.ad x0 w fun a b =>
 C.ab 3 a b fun c d =>
 C.ai c d fun f g =>
 F123.l2 K x0 x1 f (.int .i64 0) g)) : C.q Tryz.prog 123 #[x0, x1] w K := q9 (A := F123.ann) (args := [x0, x1]) (qq h)
namespace F127
def ann : Ann := ⟨[(3, [0, 1])], [], [], [], none⟩
def code := cd Tryz.f127
def top := tp Tryz.f127
variable (K : VK) (y0 y1 : Value) (w : World)
def k3 : Prop := nk ann 40 [(0, y0), (1, y1)] w [1, 1] code (top K)
attribute [irreducible] k3
end F127
theorem F127.k3.to (h : (C.ad y0 w fun a b =>
 C.ab 0 a b fun c d =>
 C.ai c d fun f g =>
 C.q Tryz.prog 198 #[f, y1] g fun i j =>
 C.a0 0 i j fun k m =>
 C.a0 1 i m fun o p =>
 C.q Tryz.prog 199 #[k] p fun q r =>
 C.a0 0 q r fun s t =>
 C.a0 1 q t fun u v =>
 C.a0 2 q v fun x y =>
 K (.tuple #[s, u]) y)) : F127.k3 K y0 y1 w := qq h
theorem F127.sh (h : (C.q Tryz.prog 118 #[x0] w fun a b =>
 C.bg a b fun c d =>
 C.i false c (fun K => K x0 d) d fun f g =>
 C.i false c (fun K => C.ad f g K) g fun i j =>
 C.i false c (fun K => C.ab 0 i j K) j fun k m =>
 C.i false c (fun K => C.ai k m K) m fun o p =>
 C.i false c (fun K => K x1 p) p fun q r =>
 C.i false c (fun K => C.q Tryz.prog 197 #[o, q] r K) r fun s t =>
 C.i false c (fun K => C.bg s t K) t fun u v =>
 C.a2 (some c) (some (.bool true)) (some u) v fun x y =>
 C.am x (K (.tuple #[(.int .i64 (-1)), (.int .i64 (-1))]) y) (F127.k3 K x0 x1 y))) : C.q Tryz.prog 127 #[x0, x1] w K := q9 (A := F127.ann) (args := [x0, x1]) (qq h)

theorem F128.sh (h : (C.q Tryz.prog 127 #[x0, x1] w fun a b =>
 C.a0 0 a b fun c d =>
 C.a0 1 a d fun f g =>
 K f g)) : C.q Tryz.prog 128 #[x0, x1] w K := q9 (A := A0) (args := [x0, x1]) (qq h)
namespace F129
def ann : Ann := ⟨[(3, [0, 1, 2, 6])], [], [], [], none⟩
def code := cd Tryz.f129
def top := tp Tryz.f129
variable (K : VK) (y0 y1 y2 y6 : Value) (w : World)
def k3 : Prop := nk ann 32 [(0, y0), (1, y1), (2, y2), (6, y6)] w [1, 1] code (top K)
attribute [irreducible] k3
end F129
theorem F129.k3.to (h : (C.ad y0 w fun a b =>
 C.ab 0 a b fun c d =>
 C.ai c d fun f g =>
 C.aj .add y1 (.int .i64 1) g fun i j =>
 C.aj .add i y2 j fun k m =>
 C.q Tryz.prog 198 #[f, k] m fun o p =>
 C.a0 0 o p fun q r =>
 C.a0 1 o r fun s t =>
 C.q Tryz.prog 201 #[q] t fun u v =>
 C.a0 0 u v fun x y =>
 C.a0 1 u y fun z aa =>
 C.ak 2 y6 x aa fun ab =>
 C.ao 2 y6 ab fun r13 _ =>
 K (.tuple #[r13, z]) ab)) : F129.k3 K y0 y1 y2 y6 w := qq h
theorem F129.sh (h : (C.a3 (.cells #[.int .i64 0, .int .i64 0] 60) w fun a b =>
 C.q Tryz.prog 200 #[x0, x1, x2] b fun c d =>
 C.bg c d fun f g =>
 C.am f (C.ay Tryz.prog (Instr.build 60 #[]) g fun i j =>
 C.ak 2 a i j fun k =>
 C.ao 2 a k fun r6 _ =>
 K (.tuple #[r6, (.bool false)]) k) (F129.k3 K x0 x1 x2 a g))) : C.q Tryz.prog 129 #[x0, x1, x2] w K := q9 (A := F129.ann) (args := [x0, x1, x2]) (qq h)
namespace F147
def ann : Ann := ⟨[(3, [0, 1]), (6, [0, 5, 16, 17, 18]), (9, [0, 5, 16, 17, 18]), (10, [5])], [(5, [0, 5, 16, 17, 18])], [], [], none⟩
def code := cd Tryz.f147
def top := tp Tryz.f147
variable (K : VK) (y0 y1 y5 y16 y17 y18 : Value) (w : World)
def k3 : Prop := nk ann 32 [(0, y0), (1, y1)] w [1, 1] code (top K)
def k10 : Prop := nk ann 32 [(5, y5)] w [1, 1, 1, 1] code (top K)
def l5 : Prop := nl ann 32 [(0, y0), (5, y5), (16, y16), (17, y17), (18, y18)] w [1, 1, 1, 0, 1, 0] code (top K)
def k6 : Prop := nk ann 32 [(0, y0), (5, y5), (16, y16), (17, y17), (18, y18)] w [1, 1, 1, 0, 1, 0, 0, 1, 1] code (top K)
def k9 : Prop := nk ann 32 [(0, y0), (5, y5), (16, y16), (17, y17), (18, y18)] w [1, 1, 1, 0, 1, 0, 0, 1, 1, 1] code (top K)
attribute [irreducible] k3 k10 l5 k6 k9
end F147
theorem F147.k3.to (h : (C.ad y0 w fun a b =>
 C.ab 1 a b fun c d =>
 C.ai c d fun f g =>
 C.q Tryz.prog 211 #[f, y1] g fun i j =>
 C.bk i j fun k m =>
 F147.l5 K y0 (.int .i64 0) i k (.int .i64 0) m)) : F147.k3 K y0 y1 w := qq h
theorem F147.k10.to (h : (K y5 w)) : F147.k10 K y5 w := qq h
theorem F147.l5.to (h : (C.aj .lss y18 y17 w fun a b =>
 C.am a (F147.k6 K y0 y5 y16 y17 y18 b) (F147.k10 K y5 b))) : F147.l5 K y0 y5 y16 y17 y18 w := by unfold F147.l5 nl; exact qag (qq h)
theorem F147.k6.to (h : (C.bj 1 y16 y18 w fun a b =>
 C.ai a b fun c d =>
 C.ad y0 d fun f g =>
 C.ab 0 f g fun i j =>
 C.ai i j fun k m =>
 C.q Tryz.prog 212 #[k, c] m fun o p =>
 C.am o (C.aj .add y5 (.int .i64 1) p fun q r =>
 F147.k9 K y0 q y16 y17 y18 r) (F147.k9 K y0 y5 y16 y17 y18 p))) : F147.k6 K y0 y5 y16 y17 y18 w := qq h
theorem F147.k9.to (h : (C.aj .add y18 (.int .i64 1) w fun a b =>
 F147.l5 K y0 y5 y16 y17 a b)) : F147.k9 K y0 y5 y16 y17 y18 w := qq h
theorem F147.sh (h : (C.q Tryz.prog 118 #[x0] w fun a b =>
 C.bg a b fun c d =>
 C.am c (K (.int .i64 0) d) (F147.k3 K x0 x1 d))) : C.q Tryz.prog 147 #[x0, x1] w K := q9 (A := F147.ann) (args := [x0, x1]) (qq h)

theorem F182.sh (h : (C.q Tryz.prog 117 #[x0] w fun a b =>
 C.q Tryz.prog 175 #[a] b fun c d =>
 C.aj .gtr c (.int .i64 0) d fun f g =>
 K f g)) : C.q Tryz.prog 182 #[x0] w K := q9 (A := A0) (args := [x0]) (qq h)

theorem F200.sh (h : (C.aj .geq x2 (.int .i64 0) w fun a b =>
 C.i true a (fun K => K x2 b) b fun c d =>
 C.i true a (fun K => K x0 d) d fun f g =>
 C.i true a (fun K => K x1 g) g fun i j =>
 C.i true a (fun K => C.q Tryz.prog 128 #[f, i] j K) j fun k m =>
 C.i true a (fun K => C.aj .lss c k m K) m fun o p =>
 C.a2 (some a) (some o) (some (.bool false)) p fun q r =>
 K q r)) : C.q Tryz.prog 200 #[x0, x1, x2] w K := q9 (A := A0) (args := [x0, x1, x2]) (qq h)

theorem F233.sh (h : (C.a3 (.cells (Value.cells x3) 60) w fun a b =>
 C.ao 2 a b fun c d =>
 C.q Tryz.prog 279 #[c] d fun f g =>
 C.a0 0 f g fun i j =>
 C.a0 1 f j fun k m =>
 C.i true k (fun K => K x0 m) m fun o p =>
 C.i true k (fun K => K x1 p) p fun q r =>
 C.i true k (fun K => K x2 r) r fun s t =>
 C.i true k (fun K => C.q Tryz.prog 200 #[o, q, s] t K) t fun u v =>
 C.a2 (some k) (some u) (some (.bool false)) v fun x y =>
 C.i true x (fun K => K x0 y) y fun z aa =>
 C.i true x (fun K => C.ad z aa K) aa fun ab ac =>
 C.i true x (fun K => C.ab 0 ab ac K) ac fun ad ae =>
 C.i true x (fun K => C.ai ad ae K) ae fun af ag =>
 C.i true x (fun K => K x1 ag) ag fun ah ai =>
 C.i true x (fun K => C.aj .add ah (.int .i64 1) ai K) ai fun aj ak =>
 C.i true x (fun K => K x2 ak) ak fun al am =>
 C.i true x (fun K => C.aj .add aj al am K) am fun an ao =>
 C.i true x (fun K => K i ao) ao fun ap aq =>
 C.i true x (fun K => C.q Tryz.prog 181 #[af, an, ap] aq K) aq fun ar au =>
 C.a2 (some x) (some ar) (some (.bool false)) au fun av aw =>
 K av aw)) : C.q Tryz.prog 233 #[x0, x1, x2, x3] w K := q9 (A := A0) (args := [x0, x1, x2, x3]) (qq h)
namespace F273
def ann : Ann := ⟨[(3, [0])], [], [], [], none⟩
def code := cd Tryz.f273
def top := tp Tryz.f273
variable (K : VK) (y0 : Value) (w : World)
def k3 : Prop := nk ann 11 [(0, y0)] w [1, 1] code (top K)
attribute [irreducible] k3
end F273
theorem F273.k3.to (h : (C.ad y0 w fun a b =>
 C.ab 0 a b fun c d =>
 C.ai c d fun f g =>
 C.q Tryz.prog 114 #[f] g fun i j =>
 K i j)) : F273.k3 K y0 w := qq h
theorem F273.sh (h : (C.q Tryz.prog 118 #[x0] w fun a b =>
 C.bg a b fun c d =>
 C.am c (K (.int .i64 0) d) (F273.k3 K x0 d))) : C.q Tryz.prog 273 #[x0] w K := q9 (A := F273.ann) (args := [x0]) (qq h)
namespace F325
def ann : Ann := ⟨[(4, [1, 5, 9, 10, 11]), (7, [1, 5, 9, 10, 11]), (8, [5])], [(3, [1, 5, 9, 10, 11])], [], [], none⟩
def code := cd Tryz.f325
def top := tp Tryz.f325
variable (K : VK) (y1 y5 y9 y10 y11 : Value) (w : World)
def k8 : Prop := nk ann 25 [(5, y5)] w [1, 1, 1] code (top K)
def l3 : Prop := nl ann 25 [(1, y1), (5, y5), (9, y9), (10, y10), (11, y11)] w [1, 1, 0, 1, 0] code (top K)
def k4 : Prop := nk ann 25 [(1, y1), (5, y5), (9, y9), (10, y10), (11, y11)] w [1, 1, 0, 1, 0, 0, 1, 1] code (top K)
def k7 : Prop := nk ann 25 [(1, y1), (5, y5), (9, y9), (10, y10), (11, y11)] w [1, 1, 0, 1, 0, 0, 1, 1, 1] code (top K)
attribute [irreducible] k8 l3 k4 k7
end F325
theorem F325.k8.to (h : (K y5 w)) : F325.k8 K y5 w := qq h
theorem F325.l3.to (h : (C.aj .lss y11 y10 w fun a b =>
 C.am a (F325.k4 K y1 y5 y9 y10 y11 b) (F325.k8 K y5 b))) : F325.l3 K y1 y5 y9 y10 y11 w := by unfold F325.l3 nl; exact qag (qq h)
theorem F325.k4.to (h : (C.bj 1 y9 y11 w fun a b =>
 C.ai a b fun c d =>
 C.q Tryz.prog 272 #[c] d fun f g =>
 C.aj .eql f y1 g fun i j =>
 C.am i (C.ay Tryz.prog (Instr.buildSlice 54 1 #[(0, c)]) j fun k m =>
 C.ay Tryz.prog (Builtin.append_ #[54, 54] 54 #[y5, k]) m fun o p =>
 F325.k7 K y1 o y9 y10 y11 p) (F325.k7 K y1 y5 y9 y10 y11 j))) : F325.k4 K y1 y5 y9 y10 y11 w := qq h
theorem F325.k7.to (h : (C.aj .add y11 (.int .i64 1) w fun a b =>
 F325.l3 K y1 y5 y9 y10 a b)) : F325.k7 K y1 y5 y9 y10 y11 w := qq h
theorem F325.sh (h : (C.q Tryz.prog 92 #[x0] w fun a b =>
 C.bk a b fun c d =>
 F325.l3 K x1 (.slice none 0 0) a c (.int .i64 0) d)) : C.q Tryz.prog 325 #[x0, x1] w K := q9 (A := F325.ann) (args := [x0, x1]) (qq h)

theorem F327.sh (h : (C.q Tryz.prog 118 #[x0] w fun a b =>
 C.i true a (fun K => K x0 b) b fun c d =>
 C.i true a (fun K => C.ad c d K) d fun f g =>
 C.i true a (fun K => C.ab 0 f g K) g fun i j =>
 C.i true a (fun K => C.ai i j K) j fun k m =>
 C.i true a (fun K => K x1 m) m fun o p =>
 C.i true a (fun K => C.q Tryz.prog 338 #[k, o] p K) p fun q r =>
 C.a2 (some a) (some q) (some (.bool false)) r fun s t =>
 K s t)) : C.q Tryz.prog 327 #[x0, x1] w K := q9 (A := A0) (args := [x0, x1]) (qq h)

theorem F328.sh (h : (C.q Tryz.prog 118 #[x0] w fun a b =>
 C.i true a (fun K => K x0 b) b fun c d =>
 C.i true a (fun K => K x1 d) d fun f g =>
 C.i true a (fun K => C.q Tryz.prog 339 #[c, f] g K) g fun i j =>
 C.i true a (fun K => C.aj .lss i (.int .i64 0) j K) j fun k m =>
 C.a2 (some a) (some k) (some (.bool false)) m fun o p =>
 C.i true o (fun K => K x0 p) p fun q r =>
 C.i true o (fun K => C.ad q r K) r fun s t =>
 C.i true o (fun K => C.ab 0 s t K) t fun u v =>
 C.i true o (fun K => C.ai u v K) v fun x y =>
 C.i true o (fun K => K x1 y) y fun z aa =>
 C.i true o (fun K => C.q Tryz.prog 212 #[x, z] aa K) aa fun ab ac =>
 C.a2 (some o) (some ab) (some (.bool false)) ac fun ad ae =>
 K ad ae)) : C.q Tryz.prog 328 #[x0, x1] w K := q9 (A := A0) (args := [x0, x1]) (qq h)
namespace F339
def ann : Ann := ⟨[(3, [0, 1])], [], [], [], none⟩
def code := cd Tryz.f339
def top := tp Tryz.f339
variable (K : VK) (y0 y1 : Value) (w : World)
def k3 : Prop := nk ann 20 [(0, y0), (1, y1)] w [1, 1] code (top K)
attribute [irreducible] k3
end F339
theorem F339.k3.to (h : (C.ad y0 w fun a b =>
 C.ab 1 a b fun c d =>
 C.ai c d fun f g =>
 C.q Tryz.prog 185 #[f, y1] g fun i j =>
 C.a0 0 i j fun k m =>
 C.a0 1 i m fun o p =>
 K k p)) : F339.k3 K y0 y1 w := qq h
theorem F339.sh (h : (C.q Tryz.prog 118 #[x0] w fun a b =>
 C.bg a b fun c d =>
 C.am c (K (.int .i64 (-1)) d) (F339.k3 K x0 x1 d))) : C.q Tryz.prog 339 #[x0, x1] w K := q9 (A := F339.ann) (args := [x0, x1]) (qq h)
end
end Go.Proofs.YtcakfaakbpdklaaGreatDoorV
namespace Go.Proofs.YtcakfaakbpdklaaGreatDoorV
open Go Go.Proofs Go.RowKit
set_option linter.unusedVariables false
set_option linter.unusedSimpArgs false
set_option maxRecDepth 10000
structure Sad where
  A : Cad
  st : Nat
  ob : Nat
  om : Nat
def Cad.all (A : Cad) : List Nat := A.cel :: A.tab :: A.mem :: A.tk :: (qab A.kv ++ qab A.mv)
def Sad.S (D : Sad) : List Nat := D.st :: D.om :: D.A.S
def Sad.all (D : Sad) : List Nat := 0 :: D.st :: D.ob :: D.om :: D.A.all
theorem Cad.sub (A : Cad) : ∀ x ∈ A.S, x ∈ A.all := fun x hx => by
  simp only [Cad.S, Cad.all, List.mem_cons, List.mem_append] at hx ⊢
  rcases hx with h | h | h | h <;> simp [h]
theorem Sad.sub (D : Sad) : ∀ x ∈ D.S, x ∈ D.all := fun x hx => by
  simp only [Sad.S, Sad.all, List.mem_cons] at hx ⊢
  rcases hx with h | h | h
  · simp [h]
  · simp [h]
  · exact .inr (.inr (.inr (.inr (D.A.sub x h))))
structure Sad.Ok (D : Sad) : Prop where
  so : D.st ≠ D.ob
  sm : D.st ≠ D.om
  om : D.ob ≠ D.om
  s : D.st ∉ D.A.all
  o : D.ob ∉ D.A.all
  m : D.om ∉ D.A.all
  z : 0 ∉ D.st :: D.ob :: D.om :: D.A.all
structure qar (D : Sad) (np : Nat) (nt : Int) (w : World) (s : St) : Prop where
  ok : D.Ok
  blk : w.heap[D.st]? = some (.cells #[.pointer (some ⟨D.A.cel, 0, none⟩), .pointer (some ⟨D.ob, 0, none⟩), .int .i64 nt, .int .i64 (np : Int), .int .i64 s.made] 171 (0, 0))
  cel : qao D.A w s.c
  own : qcj w D.ob D.om nt s.own
  np : np ≤ 64
  tz : TzB w
theorem qao.keepA {S : List Nat} {A : Cad} {w w' : World} {c : Ce} (h : qao A w c) (hf : Fr S w w') (ha : ∀ x ∈ A.all, x ∉ S) : qao A w' c :=
  h.keep hf (ha _ (by simp [Cad.all])) (ha _ (by simp [Cad.all])) (ha _ (by simp [Cad.all])) (ha _ (by simp [Cad.all])) (fun g hg => ha g (by simp [Cad.all, hg])) (fun g hg => ha g (by simp [Cad.all, hg]))
section
variable {K : VK} {w w' : World} {D : Sad} {np : Nat} {nt : Int} {s : St}
theorem qar.keep {S : List Nat} (h : qar D np nt w s) (hf : Fr S w w') (ha : ∀ x ∈ D.all, x ∉ S) : qar D np nt w' s :=
  ⟨h.ok, hf.at_ h.blk (ha _ (by simp [Sad.all])), h.cel.keepA hf (fun x hx => ha x (by simp [Sad.all, hx])), h.own.keep hf (ha _ (by simp [Sad.all])) (ha _ (by simp [Sad.all])), h.np, h.tz.keep hf (ha _ (by simp [Sad.all]))⟩
theorem qar.keep0 (h : qar D np nt w s) (hf : Fr [] w w') : qar D np nt w' s := h.keep hf (by simp)
theorem qar.setCel {c : Ce} (h : qar D np nt w s) (hf : Fr D.A.S w w') (hc : qao D.A w' c) : qar D np nt w' { s with c := c } :=
  ⟨h.ok, hf.at_ h.blk (fun e => h.ok.s (D.A.sub _ e)), hc, h.own.keep hf (fun e => h.ok.o (D.A.sub _ e)) (fun e => h.ok.m (D.A.sub _ e)), h.np, h.tz.keep hf (fun e => h.ok.z (by simp [D.A.sub _ e]))⟩
theorem qar.setOwn {f : Om} (h : qar D np nt w s) (hf : Fr [D.om] w w') (hc : qcj w' D.ob D.om nt f) : qar D np nt w' { s with own := f } :=
  ⟨h.ok, hf.at_ h.blk (by simp [h.ok.sm]), h.cel.keepA hf (fun x hx e => by simp only [List.mem_singleton] at e; subst e; exact h.ok.m hx), hc, h.np, h.tz.keep hf (fun e => h.ok.z (by simp only [List.mem_singleton] at e; simp [e]))⟩
theorem Fr.ofA (h : Fr D.A.S w w') : Fr D.S w w' := h.mono fun x hx => by simp [Sad.S, hx]
theorem Fr.ofM (h : Fr [D.om] w w') : Fr D.S w w' := h.mono fun x hx => by simp only [List.mem_singleton] at hx; simp [Sad.S, hx]
theorem Fr.ofS (h : Fr [D.st] w w') : Fr D.S w w' := h.mono fun x hx => by simp only [List.mem_singleton] at hx; simp [Sad.S, hx]
theorem qet (h : qar D np nt w s) (hk : K (.bool true) w) : C.q Tryz.prog 118 #[.pointer (some ⟨D.st, 0, none⟩)] w K := by
  refine F118.sh ⟨_, qau _ _ _ Tryz.underlying118, ?_⟩
  simp only [C.aw, C.af, C.ag, C.al, Nat.zero_add]
  refine C.ae (v := .pointer (some ⟨D.A.cel, 0, none⟩)) h.blk rfl ⟨_, qau _ _ _ Tryz.underlying166, ?_⟩
  simp only []
  exact hk
theorem qrb (a n : Int) : 0 ≤ qhv a n ∧ qhv a n ≤ 9223372036854775807 := by
  unfold qhv; split <;> omega
theorem qnb {a n : Int} (h : qar D np nt w s) (hk : ∀ w', Fr D.S w w' → qar D np nt w' (s.begin a n) → K (.int .i64 a) w') :
    C.q Tryz.prog 121 #[.pointer (some ⟨D.st, 0, none⟩), .int .i64 a, .int .i64 n] w K := by
  have hm := qrb s.made n
  refine F121.sh ?_
  simp only [C.af, C.ag, Nat.zero_add]
  refine C.ae (v := .int .i64 s.made) h.blk rfl (qux fun ok => ?_)
  try simp only [C.a7, C.a8]
  refine C.ae (v := .pointer (some ⟨D.A.cel, 0, none⟩)) h.blk rfl (qld h.cel (by omega) fun w1 hf1 h1 => ?_)
  have h1 := h.setCel hf1.mv h1
  refine C.ae (v := .int .i64 s.made) h1.blk rfl ?_
  try simp only [C.a6]
  refine C.bb h1.blk rfl rfl (by simp) fun w2 hu => ?_
  refine hk w2 (hf1.mv.ofA.trans hu.fr.ofS) ⟨h.ok, hu.at_, h1.cel.keepA hu.fr (fun x hx e => by simp only [List.mem_singleton] at e; subst e; exact h.ok.s hx), h1.own.keep hu.fr (by simp only [List.mem_singleton]; exact h.ok.so.symm) (by simp only [List.mem_singleton]; exact h.ok.sm.symm), h.np, h1.tz.keep hu.fr (fun e => h.ok.z (by simp only [List.mem_singleton] at e; simp [e]))⟩
theorem qvf {n : Int} (hk : K (.bool (decide (csz (cOf n) > 0))) w) : C.q Tryz.prog 182 #[.int .i64 n] w K := by
  refine F182.sh (qoq (qbt ?_))
  by_cases z : csz (cOf n) > 0 <;> simp only [C.bl, decide_true, decide_false, z] at hk ⊢ <;> exact hk
theorem qlg {t n : Int} (h : qar D np nt w s) (hk : ∀ w', Fr D.S w w' → qar D np nt w' (s.fast t n).1 → K (match (s.fast t n).2 with | some a => .tuple #[.int .i64 a, .bool true] | none => .tuple #[.int .i64 0, .bool false]) w') :
    C.q Tryz.prog 122 #[.pointer (some ⟨D.st, 0, none⟩), .int .i64 t, .int .i64 n] w K := by
  refine F122.sh (qet h ?_)
  simp only [C.ar, C.aq, C.al, Bool.not_true]
  refine qvf ?_
  have hc := qg4 (cOf n)
  unfold St.fast at hk
  by_cases z : csz (cOf n) = 0
  · rw [if_pos z] at hk
    simp only [C.ah, C.aq, Bool.not_false, decide_false, z, show ¬ ((0 : Int) > 0) by omega]
    exact hk w (Fr.refl _ _) h
  rw [if_neg z] at hk
  simp only [C.ac, C.aq, Bool.not_true, decide_true, show csz (cOf n) > 0 by omega]
  refine F122.k3.to (C.a4 (fun w' => w'.heap[D.st]? = some (.cells #[.pointer (some ⟨D.A.cel, 0, none⟩), .pointer (some ⟨D.ob, 0, none⟩), .int .i64 nt, .int .i64 (np : Int), .int .i64 s.made] 171 (0, 0))) fun w1 hf1 _ => ⟨hf1.at_ h.blk (by simp), ?_⟩)
  have h1 := h.keep0 hf1
  simp only [C.af, C.ag, Nat.zero_add]
  refine C.an (v := .pointer (some ⟨D.A.cel, 0, none⟩)) (fun w' hw => ⟨_, _, _, hw, rfl⟩) (C.an (v := .pointer (some ⟨D.ob, 0, none⟩)) (fun w' hw => ⟨_, _, _, hw, rfl⟩) ?_)
  refine ⟨qoq ⟨h1.blk, qu2 h1.own ⟨h1.blk, qxc h1.cel fun w2 hf2 h2 => ⟨hf2.at_ h1.blk (fun e => h.ok.s (D.A.sub _ e)), ?_⟩, trivial⟩, trivial⟩, trivial⟩
  have h2 := h1.setCel hf2 h2
  cases e : (s.c.take (qfm s.own (t, cOf n))).2 with
  | none =>
    simp only [C.ah, C.aq, C.a7, C.a8, Bool.not_false]
    have e0 : s.c.take (qfm s.own (t, cOf n)) = (s.c, none) := by
      unfold Ce.take at e ⊢
      split
      · rfl
      · rename_i z; simp [z] at e
    rw [e0] at hk h2
    exact hk w2 (hf1.w.trans hf2.ofA) h2
  | some a =>
    have e0 : s.c.take (qfm s.own (t, cOf n)) = ((s.c.take (qfm s.own (t, cOf n))).1, some a) := by rw [← e]
    rw [e0] at hk
    simp only [C.ac, C.aq, C.a7, C.a8, Bool.not_true]
    refine F122.k6.to (qnb h2 fun w3 hf3 h3 => ?_)
    exact hk w3 ((hf1.w.trans hf2.ofA).trans hf3) h3
theorem qns {a : Int} (h : qar D np nt w s) (hk : K (.tuple #[.int .i64 (s.read a).1, .int .i64 (s.read a).2]) w) :
    C.q Tryz.prog 127 #[.pointer (some ⟨D.st, 0, none⟩), .int .i64 a] w K := by
  refine F127.sh (qet h ?_)
  simp only [C.ar, C.aq, C.af, C.ag, C.al, Bool.not_true, Nat.zero_add]
  refine C.ae (v := .pointer (some ⟨D.A.cel, 0, none⟩)) h.blk rfl (qsg h.cel ?_)
  unfold St.read at hk
  cases e : s.c.isIt a with
  | false =>
    rw [e] at hk
    simp only [C.ah, C.aq, Bool.not_false]
    exact hk
  | true =>
    rw [e] at hk
    simp only [C.ac, C.aq, Bool.not_true]
    refine F127.k3.to ?_
    simp only [C.af, C.ag, Nat.zero_add]
    have hr := qha h.cel.mm (a := a)
    refine C.ae (v := .pointer (some ⟨D.A.cel, 0, none⟩)) h.blk rfl (qng h.cel fun ok => ?_)
    simp only [C.a7, C.a8]
    refine qse hr fun ok => ?_
    simp only [C.b0, C.b4, C.b5]
    exact hk
theorem qeg {a : Int} (h : qar D np nt w s) (hk : K (.int .i64 (s.fields a)) w) : C.q Tryz.prog 128 #[.pointer (some ⟨D.st, 0, none⟩), .int .i64 a] w K := by
  refine F128.sh (qns h ?_)
  simp only [C.a7, C.a8]
  exact hk
theorem qqi {a : Int} (h : qar D np nt w s) (hk : K (.int .i64 (s.serial a)) w) : C.q Tryz.prog 89 #[.pointer (some ⟨D.st, 0, none⟩), .int .i64 a] w K := by
  refine F89.sh (qns h ?_)
  simp only [C.a7, C.a8]
  exact hk
theorem qpw {a i : Int} (h : qar D np nt w s) (hk : K (.bool (decide (0 ≤ i ∧ i < s.fields a))) w) : C.q Tryz.prog 200 #[.pointer (some ⟨D.st, 0, none⟩), .int .i64 a, .int .i64 i] w K := by
  refine F200.sh ?_
  by_cases z : i ≥ 0
  · simp only [C.aw, C.bc, C.al, decide_true, z]
    refine qeg h ?_
    have : decide (0 ≤ i ∧ i < s.fields a) = decide (i < s.fields a) := by simp [show 0 ≤ i from z]
    rw [this] at hk
    by_cases y : i < s.fields a <;> simp only [C.au, decide_true, decide_false, y] at hk ⊢ <;> exact hk
  · simp only [C.ar, C.bc, C.bf, decide_false, z]
    have : decide (0 ≤ i ∧ i < s.fields a) = false := by simp; omega
    rw [this] at hk
    exact hk
theorem qon {a i : Int} (h : qar D np nt w s) (hk : ∀ w', Fr [] w w' → K (.tuple #[V (s.get a i).1.1 (s.get a i).1.2, .bool (s.get a i).2]) w') :
    C.q Tryz.prog 129 #[.pointer (some ⟨D.st, 0, none⟩), .int .i64 a, .int .i64 i] w K := by
  refine F129.sh (C.av fun r w1 hn => ?_)
  have h1 := h.keep0 hn.fr
  have lr : w.heap.size ≤ r := by have := hn.is; omega
  refine qpw h1 ?_
  unfold St.get at hk
  by_cases z : 0 ≤ i ∧ i < s.fields a
  · rw [if_pos z] at hk
    simp only [C.aq, z]
    rw [show decide (True ∧ True) = true from rfl]
    simp only [C.ac, Bool.not_true]
    refine F129.k3.to ?_
    simp only [C.af, C.ag, C.a6, Nat.zero_add]
    refine C.ae (v := .pointer (some ⟨D.A.cel, 0, none⟩)) h1.blk rfl (qng h1.cel fun ok => ?_)
    simp only [C.a7, C.a8]
    have hr := qha h1.cel.mm (a := w64 (w64 (a + 1) + i))
    have fin : ∀ (v : V2) (b : Bool) w2, Fr [] w1 w2 → (∀ w', Fr [] w w' → K (.tuple #[V v.1 v.2, .bool b]) w') → C.ak 2 (.pointer (some ⟨r, 0, none⟩)) (V v.1 v.2) w2 fun w' => C.ao 2 (.pointer (some ⟨r, 0, none⟩)) w' fun r5 _ => K (.tuple #[r5, .bool b]) w' := by
      intro v b w2 hf2 hk
      exact C.a1 (hf2.at_ hn.at_ (by simp)) rfl qak rfl fun w3 hu => C.ax hu.at_ rfl (hk w3 ((hn.fr.trans hf2).then hu.fr (by simp; omega)))
    refine qw2 _ hr (fun hc w2 hf2 => ?_) (fun hc w2 hf2 => ?_)
    · unfold qgr at hk
      rw [show qc0 s.c.m (w64 (w64 (a + 1) + i)) = qc0 s.c.m (IntKind.i64.wrap (IntKind.i64.wrap (a + 1) + i)) from rfl, if_pos hc] at hk
      simp only [C.a7, C.a8]
      exact fin (_, _) true w2 hf2 hk
    · unfold qgr at hk
      rw [show qc0 s.c.m (w64 (w64 (a + 1) + i)) = qc0 s.c.m (IntKind.i64.wrap (IntKind.i64.wrap (a + 1) + i)) from rfl, if_neg hc] at hk
      simp only [C.a7, C.a8]
      exact fin (0, 0) false w2 hf2 hk
  · rw [if_neg z] at hk
    simp only [C.ah, C.aq, Bool.not_false, decide_false, z]
    refine C.a5 qcl (C.a1 hn.at_ rfl qak rfl fun w3 hu => C.ax hu.at_ rfl (hk w3 (hn.fr.then hu.fr (by simp; omega))))
end
section
variable {K : VK} {w w' : World} {D : Sad} {np : Nat} {nt : Int} {s : St}
theorem qt5 {v : V2} (h : chk v.1 v.2 = 0) : -9223372036854775808 ≤ qka v ∧ qka v ≤ 9223372036854775807 := by
  unfold qka qmo
  rcases qs6 h with ⟨e, _⟩ | ⟨e, _⟩ | ⟨e, _⟩ <;> rw [e]
  · simp
  · simp; omega
  · simp; omega
theorem qw7 {a i : Int} {v : V2} (h : qar D np nt w s) (hk : ∀ w', Fr D.S w w' → qar D np nt w' (s.set a i v).1 → K (.bool (s.set a i v).2) w') :
    C.q Tryz.prog 233 #[.pointer (some ⟨D.st, 0, none⟩), .int .i64 a, .int .i64 i, V v.1 v.2] w K := by
  unfold St.set at hk
  refine F233.sh (C.av fun r w1 hn => C.ax hn.at_ rfl ?_)
  have h1 := h.keep0 hn.fr
  by_cases hc : chk v.1 v.2 = 0
  · refine qva _ _ hc fun w2 hf2 => ?_
    have h2 := h1.keep0 hf2
    simp only [C.aw, C.a7, C.a8, C.al]
    refine qpw h2 ?_
    by_cases z : 0 ≤ i ∧ i < s.fields a
    · have e1 : vOk v = true := by simpa [vOk] using hc
      rw [if_pos ⟨e1, z⟩] at hk
      simp only [C.aw, C.af, C.ag, C.a6, C.al, Nat.zero_add, decide_eq_true z]
      refine C.ae (v := .pointer (some ⟨D.A.cel, 0, none⟩)) h2.blk rfl ?_
      refine qld h2.cel (qt5 hc) fun w3 hf3 h3 => ?_
      have h3 := h2.setCel hf3.mv h3
      have e : (qka v) = qmo v.1 v.2 := rfl
      exact hk w3 ((hn.fr.trans hf2).w.trans hf3.mv.ofA) h3
    · rw [if_neg (fun x => z x.2)] at hk
      simp only [C.ar, C.bf, decide_eq_false z]
      exact hk w2 (hn.fr.trans hf2).w h2
  · refine qwx _ _ hc fun w2 hf2 => ?_
    rw [if_neg (fun x => hc (by simpa [vOk] using x.1))] at hk
    simp only [C.ar, C.a7, C.a8, C.bf]
    exact hk w2 (hn.fr.trans hf2).w (h1.keep0 hf2)
theorem qve {a : Int} (h : qar D np nt w s) (hk : ∀ w', Fr D.S w w' → qar D np nt w' { s with c := (s.c.give a).1 } → K (.bool (s.c.give a).2) w') :
    C.q Tryz.prog 327 #[.pointer (some ⟨D.st, 0, none⟩), .int .i64 a] w K := by
  refine F327.sh (qet h ?_)
  simp only [C.aw, C.af, C.ag, C.al, Nat.zero_add]
  refine C.ae (v := .pointer (some ⟨D.A.cel, 0, none⟩)) h.blk rfl (qwn h.cel fun w1 hf1 h1 => ?_)
  exact hk w1 hf1.ofA (h.setCel hf1 h1)
theorem qkh (h : qar D np nt w s) (hk : ∀ v w', Fr [] w w' → qal w v → qad w' v 3 1 (qaf s.objects) → K v w') :
    C.q Tryz.prog 92 #[.pointer (some ⟨D.st, 0, none⟩)] w K := by
  refine F92.sh (qet h ?_)
  simp only [C.ac, C.aq, Bool.not_true]
  refine F92.k3.to ?_
  simp only [C.af, C.ag, Nat.zero_add]
  exact C.ae (v := .pointer (some ⟨D.A.cel, 0, none⟩)) h.blk rfl (qwg h.cel h.tz hk)
theorem qft (h : qar D np nt w s) : s.objects.length ≤ 2048 := by
  unfold St.objects qij
  rw [List.length_map]
  refine Nat.le_trans (List.length_filter_le _ _) ?_
  rw [List.length_range]
  have := h.cel.mm.le
  unfold Ce.n
  omega
theorem quy {W : World} {v : Value} {l : List Int} {p : Int} (hl : l.length ≤ 2048) (hk : ∀ v' w', Fr [] W w' → qal W v' → qad w' v' 3 1 (qaf (l.filter fun a => decide (qas a = p))) → K v' w') :
    ∀ (d i : Nat) (w : World) (v' : Value), i + d = l.length → Fr [] W w → qad w v 3 1 (qaf l) → qal W v' → qad w v' 3 1 (qaf ((l.take i).filter fun a => decide (qas a = p))) → (∀ g ∈ qab v, g ∉ qab v') →
      F325.l3 K (.int .i64 p) v' v (.int .i64 (l.length : Int)) (.int .i64 (i : Int)) w := by
  intro d
  induction d with
  | zero =>
    intro i w v' hi hf hv hn' hv' hd
    have e : i = l.length := by omega
    subst e
    refine F325.l3.to ?_
    simp only [C.ac, C.au, decide_false, show ¬ ((l.length : Int) < (l.length : Int)) by omega]
    rw [List.take_length] at hv'
    exact F325.k8.to (hk v' w hf hn' hv')
  | succ d ih =>
    intro i w v' hi hf hv hn' hv' hd
    have hlt : i < l.length := by omega
    refine F325.l3.to ?_
    simp only [C.ah, C.au, decide_true, show (i : Int) < (l.length : Int) by omega]
    refine F325.k4.to (C.bw hv.rd hlt fun g o cs e fz hg hc => C.ae hg hc (qd1 ?_))
    have e1 : l.take (i + 1) = l.take i ++ [l[i]] := by rw [List.take_add_one, List.getElem?_eq_getElem hlt]; rfl
    have hl2 : ((l.take i).filter fun a => decide (qas a = p)).length ≤ 2048 := Nat.le_trans (List.length_filter_le _ _) (by rw [List.length_take]; omega)
    by_cases z : qas l[i] = p
    · simp only [C.ah, C.az, eq_self, decide_true, z]
      refine C.cy hv' (by omega) fun v1 w1 ho1 hf1 hg1 => ?_
      refine F325.k7.to ?_
      simp only [C.a6]
      rw [qaa (n := (i : Int) + 1) (by omega)]
      refine ih (i + 1) w1 v1 (by omega) (hf.then hf1 fun z hz => .inr (hn'.blk z hz)) (hv.keep' hf1 hd) (qj6 hn' hf.size hg1) ?_ fun g hg hg' => ?_
      · rw [e1, List.filter_append]
        simpa [z] using ho1
      · rcases hg1 g hg' with c | c
        · exact hd g hg c
        · have := hv.lt (qan.1 hg); omega
    · simp only [C.ac, C.az, decide_false, z]
      refine F325.k7.to ?_
      simp only [C.a6]
      rw [qaa (n := (i : Int) + 1) (by omega)]
      refine ih (i + 1) w v' (by omega) hf hv hn' ?_ hd
      rw [e1, List.filter_append]
      simpa [z] using hv'
theorem qwo {p : Int} (h : qar D np nt w s) (hk : ∀ v w', Fr [] w w' → qal w v → qad w' v 3 1 (qaf (s.inP p)) → K v w') :
    C.q Tryz.prog 325 #[.pointer (some ⟨D.st, 0, none⟩), .int .i64 p] w K := by
  refine F325.sh (qkh h fun v w1 hf1 hn1 hv1 => ?_)
  have hl := qft h
  refine C.bh hv1.rd ?_
  rw [qaj]
  refine quy (W := w) (v := v) hl (fun v' w' hf hn hv => hk v' w' hf hn hv) s.objects.length 0 w1 _ (by omega) hf1 hv1 (qal.nil _) (qad.nil _ _ _) (by simp [qab, Value.ownBlock])
theorem qss {p : Int} (h : qar D np nt w s) (hk : ∀ w', Fr [] w w' → K (.int .i64 (qb1 s.own p).1) w') :
    C.q Tryz.prog 339 #[.pointer (some ⟨D.st, 0, none⟩), .int .i64 p] w K := by
  refine F339.sh (qet h ?_)
  simp only [C.ac, C.aq, Bool.not_true]
  refine F339.k3.to ?_
  simp only [C.af, C.ag, Nat.zero_add]
  refine C.ae (v := .pointer (some ⟨D.ob, 0, none⟩)) h.blk rfl (qlk h.own fun w1 hf1 => ?_)
  simp only [C.a7, C.a8]
  exact hk w1 hf1
theorem qxe {p : Int} (h : qar D np nt w s) (hk : ∀ b w', Fr D.S w w' → qar D np nt w' (s.trim p) → K (.bool b) w') :
    C.q Tryz.prog 328 #[.pointer (some ⟨D.st, 0, none⟩), .int .i64 p] w K := by
  refine F328.sh (qet h ?_)
  unfold St.trim at hk
  simp only [C.aw, C.al]
  refine qss h fun w1 hf1 => ?_
  have h1 := h.keep0 hf1
  by_cases z : (qb1 s.own p).1 < 0
  · rw [if_pos z] at hk
    simp only [C.aw, C.af, C.ag, C.au, C.al, Nat.zero_add, decide_true, z]
    refine C.ae (v := .pointer (some ⟨D.A.cel, 0, none⟩)) h1.blk rfl (qnd h1.cel fun w2 hf2 h2 => ?_)
    exact hk _ w2 (hf1.w.trans hf2.ofA) (h1.setCel hf2 h2)
  · rw [if_neg z] at hk
    simp only [C.ar, C.au, C.bf, decide_false, z]
    exact hk _ w1 hf1.w h1
end
end Go.Proofs.YtcakfaakbpdklaaGreatDoorV
