/- THE ENGINE, part 7: slicing. Own work. -/
import Derived.Test.YtfdpmgddlaamcaaRow
namespace Go.Proofs.YtfdpmgddlaamcaaV
open Go Go.RowKit
set_option linter.unusedVariables false
set_option linter.unusedSimpArgs false
section
variable {P : Program} {w : World} {t e : TypeId} {sz : Nat}
theorem addr_add0 (a : Addr) : a.add 0 = a := by simp [Addr.add]
theorem map_add0 (A : Option Addr) : A.map (·.add 0) = A := by cases A <;> simp [addr_add0]
/-- x[:m] -/
theorem sliceTo_run (A : Option Addr) (n c : Nat) (k : IntKind) (m : Int) (hu : P.underlying t = some (.slice e)) (hs : szOf P e = some sz) (h0 : 0 ≤ m) (h1 : m ≤ (c : Int)) :
    (Instr.sliceAt t (.slice A n c) none (some (.int k m)) none).run P w = .ok (.slice A m.toNat c) w := by
  have hs' : (sizeOf e).run P w = .ok sz w := run_szOf hs
  have hz : ∀ (c : Nat), (if c = 0 then A else A.map (·.add (0 * sz))) = A := by intro c; rw [Nat.zero_mul, map_add0]; split <;> rfl
  simp [Instr.sliceAt, Instr.slice, underlying, hu, Instr.sliceBounds, Instr.sliceBound, asIntOf, h0, h1, hs']
  cases A <;> simp [addr_add0]
/-- x[l:] -/
theorem sliceFrom_run (A : Option Addr) (n c : Nat) (k : IntKind) (l : Int) (hu : P.underlying t = some (.slice e)) (hs : szOf P e = some sz) (h0 : 0 ≤ l) (h1 : l ≤ (n : Int)) :
    (Instr.sliceAt t (.slice A n c) (some (.int k l)) none none).run P w = .ok (.slice (if c = l.toNat then A else A.map (·.add (l.toNat * sz))) (n - l.toNat) (c - l.toNat)) w := by
  have hs' : (sizeOf e).run P w = .ok sz w := run_szOf hs
  simp [Instr.sliceAt, Instr.slice, underlying, hu, Instr.sliceBounds, Instr.sliceBound, asIntOf, h0, h1, hs']
end
theorem RdS.drop {w : World} {A : Option Addr} {n c sz : Nat} {xs : List (List Value)} (h : RdS w (.slice A n c) sz xs) (l : Nat) (hl : l ≤ n) :
    RdS w (.slice (if c = l then A else A.map (·.add (l * sz))) (n - l) (c - l)) sz (xs.drop l) := by
  obtain ⟨A', c', he, h1, h2, h3⟩ := h
  simp only [Value.slice.injEq] at he
  obtain ⟨rfl, rfl, rfl⟩ := he
  have hlen : (xs.drop l).length = xs.length - l := List.length_drop
  refine ⟨_, _, by rw [hlen], by rw [hlen]; omega, by omega, fun hne => ?_⟩
  obtain ⟨g, o, cs, e, fz, rfl, hg, hc⟩ := h3 (by intro e; rw [e] at hne; simp at hne)
  have hlt : l < xs.length := by
    rcases Nat.lt_or_ge l xs.length with h | h
    · exact h
    · exact absurd (List.drop_of_length_le h) hne
  refine ⟨g, o + l * sz, cs, e, fz, ?_, hg, fun i x hi => ?_⟩
  · rw [if_neg (by omega)]
    simp [add_mk]
  · rw [List.getElem?_drop] at hi
    obtain ⟨hx, hj⟩ := hc _ _ hi
    refine ⟨hx, fun j hjs => ?_⟩
    rw [← hj j hjs]
    congr 1
    rw [Nat.add_mul]
    omega
theorem cells_of {cs : Array Value} {x : List Value} {o sz : Nat} (hl : x.length = sz) (h : ∀ j, j < sz → cs[o + j]? = x[j]?) : (0 < sz → o + sz ≤ cs.size) ∧ (cs.toList.drop o).take sz = x := by
  constructor
  · intro h0
    have := h (sz - 1) (by omega)
    rw [List.getElem?_eq_getElem (by omega)] at this
    have := (Array.getElem?_eq_some_iff.1 this).1
    omega
  · apply List.ext_getElem?
    intro j
    rw [List.getElem?_take]
    by_cases hj : j < sz
    · rw [if_pos hj, List.getElem?_drop, ← h j hj]; simp
    · rw [if_neg hj, List.getElem?_eq_none (by omega)]
theorem C.loadA_cells {K : VK} {w : World} {g o sz : Nat} {cs : Array Value} {e : TypeId} {fz : Nat × Nat} {x : List Value} (hg : w.heap[g]? = some (.cells cs e fz)) (hl : x.length = sz) (h0 : 0 < sz) (h : ∀ j, j < sz → cs[o + j]? = x[j]?) (hk : K (.agg x.toArray) w) :
    C.loadA sz (.pointer (some ⟨g, o, none⟩)) w K := by
  obtain ⟨h1, h2⟩ := cells_of hl h
  exact C.loadA_of hg (h1 h0) h2 hk
/-- The element at an index, as long as S holds. -/
theorem C.idx_rdS {K : VK} {w : World} {S : World → Prop} {v : Value} {sz : Nat} {xs : List (List Value)} {k : IntKind} {i : Int} (h : ∀ w', S w' → RdS w' v sz xs) (hS : S w) {x : List Value} (h0 : 0 ≤ i) (hx : xs[i.toNat]? = some x)
    (hk : ∀ g o, x.length = sz → (∀ w', S w' → ∃ cs e fz, w'.heap[g]? = some (.cells cs e fz) ∧ ∀ j, j < sz → cs[o + j]? = x[j]?) → K (.pointer (some ⟨g, o, none⟩)) w) : C.idx sz v (.int k i) w K := by
  have hlt : i.toNat < xs.length := (List.getElem?_eq_some_iff.1 hx).1
  have hne : xs ≠ [] := by intro he; rw [he] at hlt; simp at hlt
  obtain ⟨A, c, rfl, h1, h2, h3⟩ := h w hS
  obtain ⟨g, o, cs, e, fz, rfl, hg, hc⟩ := h3 hne
  rw [C.idx_mk]
  refine ⟨⟨h0, by omega⟩, hk g _ (hc _ _ hx).1 fun w' hw' => ?_⟩
  obtain ⟨A', c', he, _, _, h3'⟩ := h w' hw'
  simp only [Value.slice.injEq] at he
  obtain ⟨rfl, _, rfl⟩ := he
  obtain ⟨g', o', cs', e', fz', hA, hg', hc'⟩ := h3' hne
  simp only [Option.some.injEq, Addr.mk.injEq] at hA
  obtain ⟨rfl, rfl, _⟩ := hA
  exact ⟨cs', e', fz', hg', fun j hj => by rw [Nat.add_assoc]; exact (hc' _ _ hx).2 j hj⟩
theorem C.loadAS_cells {K : VK} {S : World → Prop} {w : World} {g o sz : Nat} {x : List Value} (hl : x.length = sz) (h0 : 0 < sz) (h : ∀ w', S w' → ∃ cs e fz, w'.heap[g]? = some (.cells cs e fz) ∧ ∀ j, j < sz → cs[o + j]? = x[j]?) (hk : K (.agg x.toArray) w) :
    C.loadAS S sz (.pointer (some ⟨g, o, none⟩)) w K := by
  refine C.loadAS_of (vs := x) (fun w' hw' => ?_) hk
  obtain ⟨cs, e, fz, hg, hc⟩ := h w' hw'
  obtain ⟨h1, h2⟩ := cells_of hl hc
  exact ⟨cs, e, fz, hg, h1 h0, h2⟩
end Go.Proofs.YtfdpmgddlaamcaaV
