/- append, of one element or of a list, to a slice of the call's own: any program, any element. -/
import Derived.Test.YtfdpmgddlaamcaaOwn3
import Derived.Test.YtfdpmgddlaamcaaRow
namespace Go.Proofs.YtfdpmgddlaamcaaV
open Go Go.Proofs Go.RowKit
set_option linter.unusedVariables false
set_option linter.unusedSimpArgs false
section
variable {P : Program} {K : VK} {w : World} {t ty e : TypeId} {sz bytes : Nat} {z : Value}
theorem C.appN {W0 : World} {v src : Value} {xs ys : List (List Value)} (ht : P.underlying t = some (.slice e)) (hinfo : (P.info? e).map (fun i => (i.zero, i.size, i.bytes)) = some (some z, sz, bytes)) (hz : z.cells.size = sz) (hsz : 0 < sz)
    (hf : Fr [] W0 w) (hn : NewS W0 v) (hv : OwnS w v e sz xs) (hs : RdS w src sz ys) (h1 : ∀ y ∈ ys, ∀ u ∈ y, u.oneCell' = true)
    (hb : (xs.length + ys.length) * bytes ≤ 140737488355328) (hm : xs.length + ys.length ≤ 9223372036854775807)
    (hk : ∀ v' w', Fr [] W0 w' → NewS W0 v' → OwnS w' v' e sz (xs ++ ys) → Fr (blkS v) w w' → (∀ g ∈ blkS v', g ∈ blkS v ∨ w.heap.size ≤ g) → K v' w') : C.run P (Builtin.append_ #[t, t] ty #[v, src]) w K := by
  refine C.append_of ht hinfo hz hsz hv hs h1 hb hm fun v' w' ho hf' hbk _ => ?_
  have hg : ∀ g ∈ blkS v', g ∈ blkS v ∨ w.heap.size ≤ g := fun g hg => by
    rw [mem_blkS] at hg
    rcases hbk with c | ⟨g', c, d⟩
    · exact .inl (mem_blkS.2 (by rw [← c]; exact hg))
    · rw [hg] at c
      simp only [Option.some.injEq] at c
      exact .inr (by omega)
  refine hk v' w' (hf.then hf' fun x hx => .inr (hn x (mem_blkS.1 hx))) (fun g hgg => ?_) ho hf' hg
  rcases hg g (mem_blkS.2 hgg) with c | c
  · exact hn g (mem_blkS.1 c)
  · have := hf.size; omega
theorem C.app1 {W0 : World} {v xv : Value} {xs : List (List Value)} {x : List Value} (ht : P.underlying t = some (.slice e)) (hinfo : (P.info? e).map (fun i => (i.zero, i.size, i.bytes)) = some (some z, sz, bytes)) (hz : z.cells.size = sz) (hsz : 0 < sz)
    (hbs : (Instr.buildSlice t 1 #[(0, xv)]).run P w = .ok (.slice (some ⟨w.heap.size, 0, none⟩) 1 1) (w.alloc (.cells x.toArray e))) (hx : x.length = sz) (hone : ∀ u ∈ x, u.oneCell' = true)
    (hf : Fr [] W0 w) (hn : NewS W0 v) (hv : OwnS w v e sz xs) (hb : (xs.length + 1) * bytes ≤ 140737488355328) (hm : xs.length + 1 ≤ 9223372036854775807)
    (hk : ∀ v' w', Fr [] W0 w' → NewS W0 v' → OwnS w' v' e sz (xs ++ [x]) → Fr (blkS v) w w' → (∀ g ∈ blkS v', g ∈ blkS v ∨ w.heap.size ≤ g) → K v' w') :
    C.run P (Instr.buildSlice t 1 #[(0, xv)]) w fun y w1 => C.run P (Builtin.append_ #[t, t] ty #[v, y]) w1 K := by
  refine C.run_of hbs ?_
  have hw := New.mk' w (.cells x.toArray e)
  refine C.appN (ys := [x]) ht hinfo hz hsz (hf.trans hw.fr) hn (hv.keep hw.fr (by simp)) (RdS.of_block hw.at_ rfl (by simp) (by simp) (by simpa using hx) (by simp [← hx])) (by simpa using hone) (by simpa using hb) (by simpa using hm) fun v' w' a b c d e' => hk v' w' a b c (hw.fr.w.trans d) fun g hg => ?_
  rcases e' g hg with c | c
  · exact .inl c
  · have := hw.fr.size; exact .inr (by omega)
end
end Go.Proofs.YtfdpmgddlaamcaaV
