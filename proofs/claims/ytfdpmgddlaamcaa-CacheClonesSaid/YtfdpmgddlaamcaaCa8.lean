/- The cache of pages: a list beside it, plainly. -/
import Derived.Test.YtfdpmgddlaamcaaCa7
import Derived.Test.YtfdpmgddlaamcaaLibSortI
namespace Go.Proofs.YtfdpmgddlaamcaaV
open Go Go.Proofs Go.RowKit
set_option linter.unusedVariables false
set_option linter.unusedSimpArgs false
theorem srt_same {a b : List Int} (ha : a.Nodup) (hb : b.Nodup) (h : ∀ x, x ∈ a ↔ x ∈ b) : srt a = srt b :=
  srt_is (srt_lt hb) ((srt_perm b).trans ((List.perm_ext_iff_of_nodup hb ha).2 fun x => (h x).symm))
abbrev Ows := List ((Int × Int) × Int)
structure Sim (l : Pgs) (ms : Ows) : Prop where
  mem : ∀ a p, (a, p) ∈ ms ↔ On l a p
  nk : (ms.map fun x => x.1).Nodup
def ownL (ms : Ows) (p : Int) : Int × Int := match ms.find? (fun x => decide (x.2 = p)) with
  | some x => x.1
  | none => (-1, 0)
def pageL (ms : Ows) (a : Int × Int) : Int := match ms.find? (fun x => decide (x.1.1 = a.1) && decide (x.1.2 = a.2)) with
  | some x => x.2
  | none => -1
def hit (t k : Int) (x : (Int × Int) × Int) : Bool := decide (x.1.1 = t) && (decide (k = 0) || decide (x.1.2 = k))
def outL (ms : Ows) (t k : Int) : Ows := ms.filter fun x => !hit t k x
def goneL (ms : Ows) (t k : Int) : List Int := (ms.filter (hit t k)).map fun x => x.2
theorem Sim.np {l : Pgs} {c : Nat} {ms : Ows} (h : Sim l ms) (hg : Good l c) : (ms.map fun x => x.2).Nodup := by
  rw [List.nodup_iff_pairwise_ne, List.pairwise_map]
  have := List.nodup_iff_pairwise_ne.1 h.nk
  rw [List.pairwise_map] at this
  refine List.Pairwise.imp_of_mem (fun {x y} hx hy hne e => hne ?_) this
  have h1 := (h.mem x.1 x.2).1 hx
  have h2 := (h.mem y.1 y.2).1 hy
  rw [← e] at h2
  exact On.whose hg h1 h2
theorem Sim.own {n : Int} {l : Pgs} {c : Nat} {ms : Ows} (h : Sim l ms) (hg : Good l c) (p : Int) : ownL ms p = ownerOf l p := by
  unfold ownL
  cases e : ms.find? (fun x => decide (x.2 = p)) with
  | none =>
    refine (owner_off fun a ha => ?_).symm
    have := List.find?_eq_none.1 e (a, p) ((h.mem a p).2 ha)
    simp at this
  | some x =>
    have h1 := List.mem_of_find?_eq_some e
    have h2 : x.2 = p := by simpa using List.find?_some e
    subst h2
    exact (owner_on hg ((h.mem x.1 x.2).1 h1)).symm
theorem Sim.page {n : Int} {l : Pgs} {ms : Ows} (h : Sim l ms) (hk : Kept n l) (a : Int × Int) : pageL ms a = pageOf l a := by
  unfold pageL
  cases e : ms.find? (fun x => decide (x.1.1 = a.1) && decide (x.1.2 = a.2)) with
  | none =>
    refine (page_off hk fun p hp => ?_).symm
    have := List.find?_eq_none.1 e (a, p) ((h.mem a p).2 hp)
    simp at this
  | some x =>
    have h1 := List.mem_of_find?_eq_some e
    have h2 := List.find?_some e
    simp only [Bool.and_eq_true, decide_eq_true_eq] at h2
    have h3 : x.1 = a := Prod.ext h2.1 h2.2
    subst h3
    exact (page_on hk ((h.mem x.1 x.2).1 h1)).symm
theorem Sim.all {n : Int} {l : Pgs} {c : Nat} {ms : Ows} (h : Sim l ms) (hg : Good l c) (hk : Kept n l) : srt (allP l) = srt (ms.map fun x => x.2) := by
  refine srt_same (nodup_allP hg hk) (h.np hg) fun q => ?_
  rw [mem_allP hk, List.mem_map]
  constructor
  · rintro ⟨a, ha⟩; exact ⟨(a, q), (h.mem a q).2 ha, rfl⟩
  · rintro ⟨x, hx, rfl⟩; exact ⟨x.1, (h.mem x.1 x.2).1 hx⟩
theorem Sim.set {n t k p : Int} {l : Pgs} {c : Nat} {ms : Ows} (h : Sim l ms) (hk : Kept n l) (hk0 : k ≠ 0) : Sim (setL l (t, k) p c).1 (outL ms t k ++ [((t, k), p)]) := by
  have hm : ∀ x : (Int × Int) × Int, x ∈ outL ms t k ↔ x.1 ≠ (t, k) ∧ x ∈ ms := fun x => by
    unfold outL hit
    rw [List.mem_filter]
    simp only [hk0, decide_false, Bool.false_or, Bool.not_eq_true', Bool.and_eq_false_iff, decide_eq_false_iff_not]
    constructor
    · rintro ⟨h1, h2⟩
      refine ⟨fun e => ?_, h1⟩
      rw [e] at h2
      simp at h2
    · rintro ⟨h1, h2⟩
      refine ⟨h2, ?_⟩
      by_cases e : x.1.1 = t
      · exact .inr fun e2 => h1 (Prod.ext e e2)
      · exact .inl e
  refine ⟨fun a q => ?_, ?_⟩
  · rw [on_set hk, List.mem_append, List.mem_singleton, hm, h.mem]
    simp only [Prod.mk.injEq]
    constructor
    · rintro (⟨h1, h2⟩ | ⟨h1, h2⟩)
      · exact .inr ⟨h1, h2⟩
      · exact .inl ⟨h1, h2⟩
    · rintro (⟨h1, h2⟩ | ⟨h1, h2⟩)
      · exact .inr ⟨h1, h2⟩
      · exact .inl ⟨h1, h2⟩
  · rw [List.map_append, List.nodup_append]
    refine ⟨(List.filter_sublist.map _).nodup h.nk, by simp, fun x hx y hy => ?_⟩
    obtain ⟨z, hz, rfl⟩ := List.mem_map.1 hx
    simp only [List.map_cons, List.map_nil, List.mem_singleton] at hy
    subst hy
    exact ((hm z).1 hz).1
theorem Sim.drop {n t : Int} {l l' : Pgs} {ms : Ows} {out : List Int} {c : Nat} (h : Sim l ms) (hg : Good l c) (h1 : ∀ b q, On l' b q ↔ On l b q ∧ b.1 ≠ t) (h2 : ∀ q, q ∈ out ↔ ∃ j, On l (t, j) q) (hd : out.Nodup) :
    Sim l' (outL ms t 0) ∧ srt out = srt (goneL ms t 0) ∧ (goneL ms t 0).Nodup := by
  have hn : (goneL ms t 0).Nodup := ((List.filter_sublist.map _).nodup (h.np hg))
  refine ⟨⟨fun a q => ?_, (List.filter_sublist.map _).nodup h.nk⟩, srt_same hd hn fun q => ?_, hn⟩
  · unfold outL hit
    rw [List.mem_filter, h1, h.mem]
    simp
  · rw [h2]
    unfold goneL hit
    simp only [List.mem_map, List.mem_filter, decide_true, Bool.true_or, Bool.and_true, decide_eq_true_eq]
    constructor
    · rintro ⟨j, hj⟩; exact ⟨((t, j), q), ⟨(h.mem _ _).2 hj, rfl⟩, rfl⟩
    · rintro ⟨x, ⟨h3, h4⟩, rfl⟩
      subst h4
      exact ⟨x.1.2, (h.mem _ _).1 h3⟩
end Go.Proofs.YtfdpmgddlaamcaaV
