/- Rings: the parts of a graph, in their order. Plain Lean. -/
import Derived.Test.YtchonfdnghimdaaSc1
namespace Go.Proofs.YtchonfdnghimdaaV
open Go Go.Proofs Go.RowKit
set_option linter.unusedVariables false
set_option linter.unusedSimpArgs false
variable {G : Gr}
def Gr.scc (G : Gr) (i : Nat) : List Nat := (List.range G.n).filter fun j => G.ld i j && G.ld j i
/-- No lesser one is of its part. -/
def Gr.lead (G : Gr) (i : Nat) : Bool := !(List.range i).any fun j => G.ld i j && G.ld j i
def Gr.parts (G : Gr) : List (List Nat) := ((List.range G.n).filter G.lead).map G.scc
theorem scc_mem {i j : Nat} : j ∈ G.scc i ↔ G.eqv i j := by
  simp only [Gr.scc, List.mem_filter, List.mem_range, Bool.and_eq_true]
  exact ⟨fun h => h.2, fun h => ⟨ld_node h.1, h⟩⟩
theorem scc_sorted (i : Nat) : (G.scc i).Pairwise (· < ·) := (List.pairwise_lt_range).filter _
theorem scc_self {i : Nat} (h : i < G.n) : i ∈ G.scc i := scc_mem.2 (eqv_refl h)
theorem scc_eq {i j : Nat} (h : G.eqv i j) : G.scc i = G.scc j := by
  unfold Gr.scc
  apply List.filter_congr
  intro x _
  rw [Bool.eq_iff_iff, Bool.and_eq_true, Bool.and_eq_true]
  exact ⟨fun c => ⟨ld_trans h.2 c.1, ld_trans c.2 h.1⟩, fun c => ⟨ld_trans h.1 c.1, ld_trans c.2 h.2⟩⟩
theorem scc_len (i : Nat) : (G.scc i).length ≤ G.n := by
  have := List.length_filter_le (fun j => G.ld i j && G.ld j i) (List.range G.n)
  rw [List.length_range] at this
  exact this
theorem lead_iff {i : Nat} : G.lead i = true ↔ ∀ j, j < i → ¬ G.eqv i j := by
  simp only [Gr.lead, Bool.not_eq_true', List.any_eq_false, List.mem_range, Bool.and_eq_true]
  exact Iff.rfl
/-- Each part's first one. -/
theorem scc_head {i : Nat} (h : i < G.n) : ∃ k t, G.scc i = k :: t ∧ G.eqv i k ∧ G.lead k = true := by
  cases hs : G.scc i with
  | nil => have := scc_self h; rw [hs] at this; cases this
  | cons k t =>
    have hk : G.eqv i k := scc_mem.1 (by rw [hs]; simp)
    refine ⟨k, t, rfl, hk, lead_iff.2 fun j hj he => ?_⟩
    have hm : j ∈ G.scc i := scc_mem.2 (eqv_trans hk he)
    have hp := scc_sorted (G := G) i
    rw [hs] at hm hp
    rcases List.mem_cons.1 hm with c | c
    · omega
    · have := (List.pairwise_cons.1 hp).1 j c; omega
theorem lead_head {i : Nat} (h : i < G.n) (hl : G.lead i = true) : ∃ t, G.scc i = i :: t := by
  obtain ⟨k, t, he, hk, hlk⟩ := scc_head h
  have : k = i := by
    rcases Nat.lt_trichotomy k i with c | c | c
    · exact absurd hk (lead_iff.1 hl k c)
    · exact c
    · exact absurd (eqv_symm hk) (lead_iff.1 hlk i c)
  subst this
  exact ⟨t, he⟩
theorem lead_uniq {i j : Nat} (hi : G.lead i = true) (hj : G.lead j = true) (h : G.eqv i j) : i = j := by
  rcases Nat.lt_trichotomy i j with c | c | c
  · exact absurd (eqv_symm h) (lead_iff.1 hj i c)
  · exact c
  · exact absurd h (lead_iff.1 hi j c)
theorem parts_mem {p : List Nat} : p ∈ G.parts ↔ ∃ i, i < G.n ∧ p = G.scc i := by
  simp only [Gr.parts, List.mem_map, List.mem_filter, List.mem_range]
  constructor
  · rintro ⟨i, ⟨h1, _⟩, rfl⟩; exact ⟨i, h1, rfl⟩
  · rintro ⟨i, h1, rfl⟩
    obtain ⟨k, t, he, hk, hlk⟩ := scc_head h1
    exact ⟨k, ⟨ld_node hk.1, hlk⟩, (scc_eq hk).symm⟩
/-- By their first ones. -/
def hd0 (p : List Nat) : Nat := p.headD 0
theorem parts_sorted : G.parts.Pairwise fun p q => hd0 p < hd0 q := by
  unfold Gr.parts
  rw [List.pairwise_map]
  refine List.Pairwise.imp_of_mem (R := (· < ·)) (fun {a b} ha hb h => ?_) ((List.pairwise_lt_range).filter _)
  rw [List.mem_filter, List.mem_range] at ha hb
  obtain ⟨t, e⟩ := lead_head ha.1 ha.2
  obtain ⟨t', e'⟩ := lead_head hb.1 hb.2
  rw [e, e']
  exact h
theorem parts_nodup : G.parts.Nodup := parts_sorted.imp fun h e => by subst e; exact Nat.lt_irrefl _ h
/-- Lists that have the same, each once, by a rising key, are the same. -/
theorem sorted_uniq {α : Type} {f : α → Nat} : ∀ {a b : List α}, a.Pairwise (fun x y => f x < f y) → b.Pairwise (fun x y => f x < f y) → (∀ x, x ∈ a ↔ x ∈ b) → a = b
  | [], [], _, _, _ => rfl
  | [], y :: b, _, _, h => by have := (h y).2 (by simp); cases this
  | x :: a, [], _, _, h => by have := (h x).1 (by simp); cases this
  | x :: a, y :: b, ha, hb, h => by
    obtain ⟨a1, a2⟩ := List.pairwise_cons.1 ha
    obtain ⟨b1, b2⟩ := List.pairwise_cons.1 hb
    have exy : x = y := by
      rcases List.mem_cons.1 ((h x).1 (by simp)) with c | c
      · exact c
      · rcases List.mem_cons.1 ((h y).2 (by simp)) with d | d
        · exact d.symm
        · have := b1 x c; have := a1 y d; omega
    subst exy
    refine congrArg (x :: ·) (sorted_uniq a2 b2 fun z => ?_)
    constructor
    · intro hz
      rcases List.mem_cons.1 ((h z).1 (by simp [hz])) with c | c
      · subst c; have := a1 z hz; omega
      · exact c
    · intro hz
      rcases List.mem_cons.1 ((h z).2 (by simp [hz])) with c | c
      · subst c; have := b1 z hz; omega
      · exact c
/-- What was collected, in the order of the first ones. -/
theorem parts_is {Q : List (List Nat)} (h1 : ∀ p ∈ Q, ∃ i, i < G.n ∧ p = G.scc i) (h2 : ∀ i, i < G.n → G.scc i ∈ Q) (h3 : Q.Pairwise fun p q => hd0 p ≤ hd0 q) (h4 : Q.Nodup) : Q = G.parts := by
  refine sorted_uniq (f := hd0) ?_ parts_sorted fun x => ?_
  · refine List.Pairwise.imp_of_mem (fun {a b} ha hb h => ?_) (h3.and h4)
    obtain ⟨i, hi, rfl⟩ := h1 a ha
    obtain ⟨j, hj, rfl⟩ := h1 b hb
    obtain ⟨hle, hne⟩ := h
    obtain ⟨k, t, e, hk, hlk⟩ := scc_head hi
    obtain ⟨k', t', e', hk', hlk'⟩ := scc_head hj
    rw [e, e'] at hle ⊢
    simp only [hd0, List.headD_cons] at hle ⊢
    rcases Nat.lt_or_ge k k' with c | c
    · exact c
    · have : k = k' := by omega
      subst this
      exact absurd ((scc_eq hk).trans (scc_eq hk').symm) hne
  · rw [parts_mem]
    exact ⟨h1 x, fun ⟨i, hi, e⟩ => by rw [e]; exact h2 i hi⟩
/-- Nodes that lead back to themselves. -/
def Gr.ring (G : Gr) (k : Nat) : Bool := (List.range G.n).any fun j => G.edge k j && G.ld j k
def Gr.ringL (G : Gr) : List Nat := (List.range G.n).filter G.ring
theorem ring_iff {k : Nat} : G.ring k = true ↔ ∃ j, G.edge k j = true ∧ G.ld j k = true := by
  simp only [Gr.ring, List.any_eq_true, List.mem_range, Bool.and_eq_true]
  exact ⟨fun ⟨j, _, h⟩ => ⟨j, h⟩, fun ⟨j, h⟩ => ⟨j, ld_start h.2, h⟩⟩
theorem ring_node {k : Nat} (h : G.ring k = true) : k < G.n := by
  obtain ⟨j, _, h⟩ := ring_iff.1 h
  exact ld_node h
/-- From one to another one there is a first edge. -/
theorem ld_first {i j : Nat} (h : G.ld i j = true) (hne : i ≠ j) : ∃ k, G.edge i k = true ∧ G.ld k j = true := by
  have := ld_ind (p := fun x => x = i ∨ ∃ k, G.edge i k = true ∧ G.ld k x = true) (fun _ => .inl rfl) (fun a b ha hp he hb => by
    rcases hp with rfl | ⟨k, h1, h2⟩
    · exact .inr ⟨b, he, ld_refl hb⟩
    · exact .inr ⟨k, h1, ld_edge h2 he hb⟩) h
  rcases this with c | c
  · exact absurd c.symm hne
  · exact c
theorem ring_scc {k : Nat} (h : k < G.n) : G.ring k = true ↔ 1 < (G.scc k).length ∨ G.edge k k = true := by
  have hp := scc_sorted (G := G) k
  have hs := scc_self h
  constructor
  · intro hr
    obtain ⟨j, he, hl⟩ := ring_iff.1 hr
    have hj := ld_start hl
    by_cases e : j = k
    · subst e; exact .inr he
    · left
      have hjs : j ∈ G.scc k := scc_mem.2 ⟨ld_one h he hj, hl⟩
      match hq : G.scc k with
      | [] => rw [hq] at hs; cases hs
      | [x] =>
        rw [hq] at hs hjs
        simp at hs hjs
        omega
      | x :: y :: t => simp
  · rintro (hl | he)
    · match hq : G.scc k with
      | [] => rw [hq] at hl; simp at hl
      | [x] => rw [hq] at hl; simp at hl
      | x :: y :: t =>
        rw [hq] at hp hs
        have hxy : x < y := (List.pairwise_cons.1 hp).1 y (by simp)
        have hx : G.eqv k x := scc_mem.1 (by rw [hq]; simp)
        have hy : G.eqv k y := scc_mem.1 (by rw [hq]; simp)
        have : ∃ z, z ≠ k ∧ G.eqv k z := by
          by_cases c : x = k
          · exact ⟨y, by omega, hy⟩
          · exact ⟨x, c, hx⟩
        obtain ⟨z, hz, hk⟩ := this
        obtain ⟨a, h1, h2⟩ := ld_first hk.1 (Ne.symm hz)
        exact ring_iff.2 ⟨a, h1, ld_trans h2 hk.2⟩
    · exact ring_iff.2 ⟨k, he, ld_refl h⟩
theorem ring_eqv {i k : Nat} (h : G.eqv i k) (hr : 1 < (G.scc i).length) : G.ring k = true := (ring_scc (ld_node h.1)).2 (.inl (by rwa [← scc_eq h]))
end Go.Proofs.YtchonfdnghimdaaV
