/- slices.Sort of ints: what the call comes to. Own work (over the kit's contract, laid in Esort). -/
import Derived.Test.YtfdpmgddlaamcaaEsort
import Derived.Test.YtfdpmgddlaamcaaLib1
import Derived.Shelf.SortM.SortNone
namespace Go.Proofs.YtfdpmgddlaamcaaV
open Go Go.Proofs Go.RowKit
set_option linter.unusedVariables false
set_option linter.unusedSimpArgs false
def srt (l : List Int) : List Int := l.mergeSort fun x y => decide (x ≤ y)
theorem srt_perm (l : List Int) : (srt l).Perm l := List.mergeSort_perm l _
theorem srt_len (l : List Int) : (srt l).length = l.length := (srt_perm l).length_eq
theorem srt_le (l : List Int) : (srt l).Pairwise (· ≤ ·) := by
  have := List.pairwise_mergeSort (le := fun (x y : Int) => decide (x ≤ y)) (fun a b c h1 h2 => by simp at *; omega) (fun a b => by simp; omega) l
  exact this.imp fun h => by simpa using h
theorem srt_lt {l : List Int} (h : l.Nodup) : (srt l).Pairwise (· < ·) := by
  have h1 := srt_le l
  have h2 : (srt l).Nodup := (srt_perm l).nodup_iff.2 h
  exact (h1.and h2).imp fun ⟨a, b⟩ => by omega
/-- What rises, and has the same, is it. -/
theorem srt_is {l k : List Int} (hk : k.Pairwise (· < ·)) (hp : k.Perm l) : srt l = k := by
  have hl : l.Nodup := hp.nodup_iff.1 (hk.imp fun h => by omega)
  have h1 := srt_lt hl
  have hm : ∀ x, x ∈ srt l ↔ x ∈ k := fun x => (srt_perm l).mem_iff.trans hp.mem_iff.symm
  generalize srt l = s at h1 hm
  clear hp hl
  induction s generalizing k with
  | nil =>
    cases k with
    | nil => rfl
    | cons y k => have := (hm y).2 (by simp); cases this
  | cons x s ih =>
    cases k with
    | nil => have := (hm x).1 (by simp); cases this
    | cons y k =>
      obtain ⟨a1, a2⟩ := List.pairwise_cons.1 h1
      obtain ⟨b1, b2⟩ := List.pairwise_cons.1 hk
      have e : x = y := by
        rcases List.mem_cons.1 ((hm x).1 (by simp)) with c | c
        · exact c
        · rcases List.mem_cons.1 ((hm y).2 (by simp)) with d | d
          · exact d.symm
          · have := b1 x c; have := a1 y d; omega
      subst e
      refine congrArg (x :: ·) (ih b2 a2 fun z => ?_)
      constructor
      · intro hz
        rcases List.mem_cons.1 ((hm z).1 (by simp [hz])) with c | c
        · subst c; have := a1 z hz; omega
        · exact c
      · intro hz
        rcases List.mem_cons.1 ((hm z).2 (by simp [hz])) with c | c
        · subst c; have := b1 z hz; omega
        · exact c
theorem intC_flatS (l : List Int) : (intC l).flatten = l.map (Value.int .i64) := by
  induction l with
  | nil => rfl
  | cons x l ih => simp only [intC, List.map_cons, List.flatten_cons, List.cons_append, List.nil_append] at *; rw [ih]
theorem intC_oneS {l : List Int} : ∀ y ∈ intC l, ∀ u ∈ y, u.oneCell' = true := by
  intro y hy u hu
  simp only [intC, List.mem_map] at hy
  obtain ⟨x, _, rfl⟩ := hy
  simp only [List.mem_cons, List.not_mem_nil, or_false] at hu
  subst hu
  rfl
section
variable {K : VK} {w : World}
theorem SortI_c {v : Value} {l : List Int} (ho : OwnS w v 3 1 (intC l)) (hl : l.length ≤ 4000000000000000) (h : ∀ w', Fr (blkS v) w w' → OwnS w' v 3 1 (intC (srt l)) → K (.tuple #[]) w') : C.call Try.prog 56 #[v] w K := by
  obtain ⟨⟨h1, h2⟩, h3⟩ := ho
  rw [intC_len] at h1 h2
  rcases h2 with ⟨rfl, h2⟩ | ⟨g, cap, cur, rfl, hb, hg, h4, h5, h6, h7⟩
  · have e : l = [] := List.eq_nil_of_length_eq_zero h2
    subst e
    refine (AnyM.slices_Sort_int_none sortI none 0 w).mono ?_
    rintro e w' ⟨rfl, rfl⟩
    exact ⟨_, rfl, h w' (Fr.refl _ _) (by
      have : srt [] = [] := by simp [srt]
      rw [this]
      exact OwnS.nil _ _ _)⟩
  · rw [intC_flatS, Nat.mul_one] at h7
    have hH := holds_of_blockI hg h7
    refine (AnyM.slices_Sort_int sortI g 0 cap l w hH (lt_of_at hg) (by omega)).mono ?_
    rintro e w' ⟨rfl, n, os, rfl⟩
    refine ⟨_, rfl, h _ (fr_of_grownBy (v := .slice (some ⟨g, 0, none⟩) l.length cap) (grownBy_sortedI _)) ?_⟩
    have hr := ownsRow_sortedI (n := n) (os := os) (base := 0) (ts := srt l) (srt_len l) (Nat.zero_le _) hg h4 h5 h6
    refine ⟨?_, fun x hx => ⟨?_, intC_oneS x hx⟩⟩
    · rw [intC_len, intC_flatS, srt_len]
      exact hr
    · simp only [intC, List.mem_map] at hx
      obtain ⟨y, _, rfl⟩ := hx
      rfl
end
end Go.Proofs.YtfdpmgddlaamcaaV
