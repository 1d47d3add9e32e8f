/- x[lo:hi], of a list that is read. Own work. -/
import Derived.Test.YtfdpmgddlaamcaaOwn
namespace Go.Proofs.YtfdpmgddlaamcaaV
open Go Go.RowKit
set_option linter.unusedVariables false
set_option linter.unusedSimpArgs false
section
variable {P : Program} {K : VK} {w : World} {t e : TypeId} {sz : Nat}
theorem sliceMid_run (A : Option Addr) (n c : Nat) (k k' : IntKind) (l h : Int) (hu : P.underlying t = some (.slice e)) (hs : szOf P e = some sz) (h0 : 0 ≤ l) (h1 : l ≤ h) (h2 : h ≤ (c : Int)) :
    (Instr.sliceAt t (.slice A n c) (some (.int k l)) (some (.int k' h)) none).run P w = .ok (.slice (if c = l.toNat then A else A.map (·.add (l.toNat * sz))) (h.toNat - l.toNat) (c - l.toNat)) w := by
  have hs' : (sizeOf e).run P w = .ok sz w := run_szOf hs
  have h3 : 0 ≤ h := by omega
  have h4 : ¬ (max h 0 < l) := by omega
  have h5 : ¬ (h < l) := by omega
  simp [Instr.sliceAt, Instr.slice, underlying, hu, Instr.sliceBounds, Instr.sliceBound, asIntOf, h0, h1, h2, h3, h4, h5, hs']
/-- x[lo:hi] -/
theorem C.mid_of {w0 : World} {v : Value} {k k' : IntKind} {xs : List (List Value)} {lo hi : Nat} (hv : RdS w0 v sz xs) (hu : P.underlying t = some (.slice e)) (hs : szOf P e = some sz) (h1 : lo ≤ hi) (h2 : hi ≤ xs.length)
    (hk : ∀ v', RdS w0 v' sz ((xs.drop lo).take (hi - lo)) → (∀ g ∈ blkS v', g ∈ blkS v) → K v' w) : C.run P (Instr.sliceAt t v (some (.int k (lo : Int))) (some (.int k' (hi : Int))) none) w K := by
  obtain ⟨A, c, rfl, hc, hm, hx⟩ := hv
  have hr := sliceMid_run (P := P) (w := w) A xs.length c k k' (lo : Int) (hi : Int) hu hs (by omega) (by omega) (by omega)
  refine C.run_of hr (hk _ ?_ fun g hg => ?_)
  rotate_left
  · rw [mem_blkS] at hg ⊢
    cases A with
    | none => simp [Value.ownBlock] at hg
    | some a =>
      split at hg
      · exact hg
      · simp only [Option.map_some, Value.ownBlock, Option.some.injEq] at hg ⊢
        rw [← hg]
        simp [Addr.add]
        split <;> rfl
  have hv : RdS w0 (.slice A xs.length c) sz xs := ⟨A, c, rfl, hc, hm, hx⟩
  have h3 := (hv.take hi h2)
  have h4 := h3.drop lo h1
  simp only [Int.toNat_natCast]
  have e1 : (xs.take hi).drop lo = (xs.drop lo).take (hi - lo) := by rw [List.drop_take]
  rw [e1] at h4
  exact h4
end
end Go.Proofs.YtfdpmgddlaamcaaV
