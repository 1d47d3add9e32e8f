/- The cache of pages: a drop, class by class, and all pages, plainly. -/
import Derived.Test.YtfdpmgddlaamcaaCa6
namespace Go.Proofs.YtfdpmgddlaamcaaV
open Go Go.Proofs Go.RowKit
set_option linter.unusedVariables false
set_option linter.unusedSimpArgs false
theorem nodup_few : ∀ (n : Nat) (l : List Int), l.Nodup → (∀ x ∈ l, 0 ≤ x ∧ x < (n : Int)) → l.length ≤ n
  | 0, l, _, h => by
    cases l with
    | nil => simp
    | cons x l => have := h x (by simp); omega
  | n + 1, l, hd, h => by
    by_cases hn : (n : Int) ∈ l
    · have ih := nodup_few n (l.erase n) (hd.erase _) fun x hx => by
        have h1 := h x (List.mem_of_mem_erase hx)
        have h2 : x ≠ n := fun e => by subst e; exact absurd hx hd.not_mem_erase
        omega
      have := List.length_erase_of_mem hn
      omega
    · have ih := nodup_few n l hd fun x hx => by
        have h1 := h x hx
        have h2 : x ≠ n := fun e => by subst e; exact hn hx
        omega
      omega
theorem few_pages {n : Int} {c : Nat} {l : Pgs} (hg : Good l c) (hk : Kept n l) : l.length ≤ 64 := by
  have := nodup_few 64 (allP l) (nodup_allP hg hk) fun x hx => by
    obtain ⟨a, ha⟩ := (mem_allP hk).1 hx
    have := ha.in hk
    omega
  simpa [allP] using this
/-! ### A drop -/
structure DropI (n t : Int) (l : Pgs) (c : Nat) (k : Int) (l' : Pgs) (out : List Int) : Prop where
  good0 : Good l c
  good : Good l' c
  kept : Kept n l'
  on : ∀ b q, On l' b q ↔ On l b q ∧ ¬ (b.1 = t ∧ b.2 < k)
  mem : ∀ q, q ∈ out ↔ ∃ j, j < k ∧ On l (t, j) q
  nd : out.Nodup
  len : (out.length : Int) < k
section
variable {n t k : Int} {l l' : Pgs} {c : Nat} {out : List Int}
theorem DropI.start (hg : Good l c) (hk : Kept n l) : DropI n t l c 1 l [] := by
  refine ⟨hg, hg, hk, fun b q => ⟨fun h => ⟨h, fun e => ?_⟩, fun h => h.1⟩, fun q => ⟨fun h => (by cases h), ?_⟩, by simp, by simp⟩
  · have := h.in hk; omega
  · rintro ⟨j, hj, h⟩
    have := h.in hk
    simp only at this
    omega
theorem DropI.take {p : Int} (h : DropI n t l c k l' out) (hp : On l' (t, k) p) : DropI n t l c (k + 1) (delL l' (t, k)) (out ++ [p]) := by
  have hs := del_sub l' (t, k)
  have h0 := (h.on _ _).1 hp
  refine ⟨h.good0, h.good.sub hs, h.kept.sub hs, fun b q => ?_, fun q => ?_, ?_, ?_⟩
  · rw [on_del h.kept, h.on]
    constructor
    · rintro ⟨h1, h2, h3⟩
      refine ⟨h2, fun e => ?_⟩
      by_cases e2 : b.2 = k
      · exact h1 (Prod.ext e.1 e2)
      · exact h3 ⟨e.1, by omega⟩
    · rintro ⟨h2, h3⟩
      refine ⟨fun e => ?_, h2, fun e => h3 ⟨e.1, by omega⟩⟩
      subst e
      exact h3 ⟨rfl, by simp only; omega⟩
  · rw [List.mem_append, h.mem, List.mem_singleton]
    constructor
    · rintro (⟨j, hj, hq⟩ | rfl)
      · exact ⟨j, by omega, hq⟩
      · exact ⟨k, by omega, h0.1⟩
    · rintro ⟨j, hj, hq⟩
      by_cases e : j = k
      · subst e
        exact .inr (On.one h.kept ((h.on _ _).2 ⟨hq, fun d => h0.2 ⟨rfl, d.2⟩⟩) hp)
      · exact .inl ⟨j, by omega, hq⟩
  · rw [List.nodup_append]
    refine ⟨h.nd, by simp, fun x hx y hy => ?_⟩
    rw [List.mem_singleton.1 hy]
    rintro rfl
    obtain ⟨j, hj, hq⟩ := (h.mem _).1 hx
    have := On.whose h.good0 hq h0.1
    simp only [Prod.mk.injEq, true_and] at this
    omega
  · have := h.len
    simp only [List.length_append, List.length_cons, List.length_nil]
    omega
theorem DropI.skip (h : DropI n t l c k l' out) (hp : ∀ p, ¬ On l' (t, k) p) : DropI n t l c (k + 1) l' out := by
  have hno : ∀ p, ¬ On l (t, k) p := fun p hq => hp p ((h.on _ _).2 ⟨hq, fun d => by have := d.2; simp only at this; omega⟩)
  refine ⟨h.good0, h.good, h.kept, fun b q => ?_, fun q => ?_, h.nd, by have := h.len; omega⟩
  · rw [h.on]
    constructor
    · rintro ⟨h2, h3⟩
      refine ⟨h2, fun e => ?_⟩
      by_cases e2 : b.2 = k
      · have : b = (t, k) := Prod.ext e.1 e2
        subst this
        exact hno q h2
      · exact h3 ⟨e.1, by omega⟩
    · rintro ⟨h2, h3⟩
      exact ⟨h2, fun e => h3 ⟨e.1, by omega⟩⟩
  · rw [h.mem]
    constructor
    · rintro ⟨j, hj, hq⟩
      exact ⟨j, by omega, hq⟩
    · rintro ⟨j, hj, hq⟩
      by_cases e : j = k
      · subst e; exact absurd hq (hno q)
      · exact ⟨j, by omega, hq⟩
theorem DropI.fin (hk : Kept n l) (h : DropI n t l c 5 l' out) : (∀ b q, On l' b q ↔ On l b q ∧ b.1 ≠ t) ∧ ∀ q, q ∈ out ↔ ∃ j, On l (t, j) q := by
  refine ⟨fun b q => ?_, fun q => ?_⟩
  · rw [h.on]
    refine ⟨fun ⟨a, b⟩ => ⟨a, fun e => b ⟨e, (a.in hk).2.2.2.1⟩⟩, fun ⟨a, b⟩ => ⟨a, fun e => b e.1⟩⟩
  · rw [h.mem]
    exact ⟨fun ⟨j, _, a⟩ => ⟨j, a⟩, fun ⟨j, a⟩ => ⟨j, (a.in hk).2.2.2.1, a⟩⟩
end
/-! ### What was gone through -/
theorem once_eq {l : Pgs} {c : Nat} (hg : Good l c) {x y : (Int × Int) × Value × Nat} (hx : x ∈ l) (hy : y ∈ l) (e : x.2.2 = y.2.2) : x = y := by
  obtain ⟨i, hi, rfl⟩ := List.getElem_of_mem hx
  obtain ⟨j, hj, rfl⟩ := List.getElem_of_mem hy
  by_cases eij : i = j
  · subst eij; rfl
  · have hp := List.pairwise_iff_getElem.1 (List.nodup_iff_pairwise_ne.1 hg.once)
    rcases Nat.lt_or_gt_of_ne eij with hlt | hlt
    · have q := hp i j (by simpa using hi) (by simpa using hj) hlt; simp only [List.getElem_map] at q; exact absurd e q
    · have q := hp j i (by simpa using hj) (by simpa using hi) hlt; simp only [List.getElem_map] at q; exact absurd e.symm q
/-- The entries gone through, in their order. -/
structure Vis (l : Pgs) (vis : Pgs) (seen : Array Nat) : Prop where
  sub : ∀ x ∈ vis, x ∈ l
  nd : vis.Nodup
  seen : ∀ x ∈ l, seen.contains x.2.2 = true ↔ x ∈ vis
theorem Vis.nil (l : Pgs) : Vis l [] #[] := ⟨by simp, by simp, by simp⟩
theorem Vis.add {l vis : Pgs} {seen : Array Nat} {c : Nat} (hg : Good l c) (h : Vis l vis seen) {x : (Int × Int) × Value × Nat} (hx : x ∈ l) (hn : seen.contains x.2.2 = false) : Vis l (vis ++ [x]) (seen.push x.2.2) := by
  refine ⟨fun y hy => ?_, ?_, fun y hy => ?_⟩
  · rcases List.mem_append.1 hy with d | d
    · exact h.sub y d
    · rw [List.mem_singleton.1 d]; exact hx
  · rw [List.nodup_append]
    refine ⟨h.nd, by simp, fun y hy z hz => ?_⟩
    rw [List.mem_singleton.1 hz]
    rintro rfl
    rw [(h.seen y hx).2 hy] at hn
    cases hn
  · rw [Array.contains_push, Bool.or_eq_true, h.seen y hy, List.mem_append, List.mem_singleton]
    constructor
    · rintro (d | d)
      · exact .inl d
      · exact .inr (once_eq hg hy hx (by simpa using d))
    · rintro (d | d)
      · exact .inl d
      · exact .inr (by rw [d]; simp)
theorem Vis.all {l vis : Pgs} {seen : Array Nat} {c : Nat} (hg : Good l c) (h : Vis l vis seen) (ha : ∀ x ∈ l, seen.contains x.2.2 = true) : vis.Perm l := by
  have hl : l.Nodup := by
    have := List.nodup_iff_pairwise_ne.1 hg.once
    rw [List.pairwise_map] at this
    exact List.nodup_iff_pairwise_ne.2 (this.imp fun h e => h (by rw [e]))
  exact (List.perm_ext_iff_of_nodup h.nd hl).2 fun x => ⟨h.sub x, fun hx => (h.seen x hx).1 (ha x hx)⟩
end Go.Proofs.YtfdpmgddlaamcaaV
