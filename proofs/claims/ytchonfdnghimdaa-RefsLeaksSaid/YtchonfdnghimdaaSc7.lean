/- The parts of a graph, by the program: the order in which nodes are left. -/
import Derived.Test.YtchonfdnghimdaaSc6
import Derived.Test.YtchonfdnghimdaaGScc2
import Derived.Test.YtchonfdnghimdaaLibSortI
namespace Go.Proofs.YtchonfdnghimdaaV
open Go Go.Proofs Go.RowKit
set_option linter.unusedVariables false
set_option linter.unusedSimpArgs false
set_option maxRecDepth 10000
section
variable {K : VK} {w : World}
theorem C.appIs' {v src : Value} {l k : List Int} (hv : OwnS w v 3 1 (intC l)) (hs : RdS w src 1 (intC k)) (hl : l.length + k.length ≤ 17592186044415)
    (hk : ∀ v' w', OwnS w' v' 3 1 (intC (l ++ k)) → Fr (blkS v) w w' → (∀ g ∈ blkS v', g ∈ blkS v ∨ w.heap.size ≤ g) → K v' w') :
    C.run Try.prog (Builtin.append_ #[23, 23] 23 #[v, src]) w K :=
  C.appIs (fr_bare w) (new_bare w v) hv hs hl fun v' w' _ _ a b c => hk v' w' a b c
/-- What stands while nodes are left. -/
structure OI (G : Gr) (W w : World) (bw : Nat) (nv mv ov : Value) (ord : List Nat) : Prop where
  fr : Fr [] W w
  hb : w.heap[bw]? = some (.cells #[nv, mv] 43 (0, 0))
  fl : OwnS w mv 4 1 (boolC (metL G.n ord))
  gf : NewS W mv
  oo : OwnS w ov 3 1 (intC (natI ord))
  no : NewS W ov
  dp : Dp G ord []
theorem order_loop {G : Gr} {W : World} {nv rv mv : Value} {b1 bw : Nat} (hG : IsG W nv rv G)
    (h : ∀ ov ord w', OI G W w' bw nv mv ov ord → (∀ v, v < G.n → v ∈ ord) → F11.l4 K (.pointer (some ⟨b1, 0, none⟩)) ov (.pointer (some ⟨bw, 0, none⟩)) (.int .i64 (G.n : Int)) (.int .i64 (G.n : Int)) w') :
    ∀ (d i : Nat) (w : World) (ov : Value) (ord : List Nat), G.n = i + d → OI G W w bw nv mv ov ord → (∀ v, v < i → v ∈ ord) →
      F11.l4 K (.pointer (some ⟨b1, 0, none⟩)) ov (.pointer (some ⟨bw, 0, none⟩)) (.int .i64 (G.n : Int)) (.int .i64 (i : Int)) w := by
  have hfew := hG.few
  intro d
  induction d with
  | zero =>
    intro i w ov ord hi hI hd
    have e : i = G.n := by omega
    subst e
    exact h ov ord w hI hd
  | succ d ih =>
    intro i w ov ord hi hI hd
    have il : i < G.n := by omega
    have hol : ord.length ≤ G.n := by have := hI.dp.len; simpa using this
    refine F11.l4.to ?_
    simp only [C.ite_true, C.ite_false, C.pick_true, C.pick_false, C.not_bool, C.field_ptr, C.nilCheck_ptr, C.add_mk, C.sub_mk, C.mul_mk, C.eql_mk, C.neq_mk, C.lss_mk, C.leq_mk, C.gtr_mk, C.geq_mk, C.conv_mk, C.len_mk, C.ext_0, C.ext_1, C.ext3_0, C.ext3_1, C.ext3_2, C.guarded_yes, C.guarded_tf, C.guarded_ft, C.guarded_undef, Bool.not_true, Bool.not_false, Nat.zero_add, eq_self, decide_true, decide_false, show ((i : Int) < (G.n : Int)) by omega]
    have nx : ∀ ov' ord' w', OI G W w' bw nv mv ov' ord' → (∀ v, v < i + 1 → v ∈ ord') → F11.k8 K (.pointer (some ⟨b1, 0, none⟩)) ov' (.pointer (some ⟨bw, 0, none⟩)) (.int .i64 (G.n : Int)) (.int .i64 (i : Int)) w' := fun ov' ord' w' a c => by
      refine F11.k8.to ?_
      simp only [C.ite_true, C.ite_false, C.pick_true, C.pick_false, C.not_bool, C.field_ptr, C.nilCheck_ptr, C.add_mk, C.sub_mk, C.mul_mk, C.eql_mk, C.neq_mk, C.lss_mk, C.leq_mk, C.gtr_mk, C.geq_mk, C.conv_mk, C.len_mk, C.ext_0, C.ext_1, C.ext3_0, C.ext3_1, C.ext3_2, C.guarded_yes, C.guarded_tf, C.guarded_ft, C.guarded_undef, Bool.not_true, Bool.not_false, Nat.zero_add, eq_self, decide_true, decide_false]
      rw [wrap64_id (n := (i : Int) + 1) (by omega), show (i : Int) + 1 = ((i + 1 : Nat) : Int) by omega]
      exact ih (i + 1) w' ov' ord' (by omega) a c
    refine F11.k5.to ?_
    simp only [C.ite_true, C.ite_false, C.pick_true, C.pick_false, C.not_bool, C.field_ptr, C.nilCheck_ptr, C.add_mk, C.sub_mk, C.mul_mk, C.eql_mk, C.neq_mk, C.lss_mk, C.leq_mk, C.gtr_mk, C.geq_mk, C.conv_mk, C.len_mk, C.ext_0, C.ext_1, C.ext3_0, C.ext3_1, C.ext3_2, C.guarded_yes, C.guarded_tf, C.guarded_ft, C.guarded_undef, Bool.not_true, Bool.not_false, Nat.zero_add, eq_self, decide_true, decide_false]
    refine C.load1_of (v := mv) hI.hb rfl (C.idx_bool hI.fl.rd (by rw [metL_len]; exact il) ?_)
    rw [metL_get]
    by_cases hm : i ∈ ord
    · simp only [C.ite_true, C.ite_false, C.pick_true, C.pick_false, C.not_bool, C.field_ptr, C.nilCheck_ptr, C.add_mk, C.sub_mk, C.mul_mk, C.eql_mk, C.neq_mk, C.lss_mk, C.leq_mk, C.gtr_mk, C.geq_mk, C.conv_mk, C.len_mk, C.ext_0, C.ext_1, C.ext3_0, C.ext3_1, C.ext3_2, C.guarded_yes, C.guarded_tf, C.guarded_ft, C.guarded_undef, Bool.not_true, Bool.not_false, Nat.zero_add, eq_self, decide_true, decide_false, hm]
      refine nx ov ord w hI fun v hv => ?_
      by_cases e : v = i
      · subst e; exact hm
      · exact hd v (by omega)
    · simp only [C.ite_true, C.ite_false, C.pick_true, C.pick_false, C.not_bool, C.field_ptr, C.nilCheck_ptr, C.add_mk, C.sub_mk, C.mul_mk, C.eql_mk, C.neq_mk, C.lss_mk, C.leq_mk, C.gtr_mk, C.geq_mk, C.conv_mk, C.len_mk, C.ext_0, C.ext_1, C.ext3_0, C.ext3_1, C.ext3_2, C.guarded_yes, C.guarded_tf, C.guarded_ft, C.guarded_undef, Bool.not_true, Bool.not_false, Nat.zero_add, eq_self, decide_true, decide_false, hm]
      have hgk : ∀ w', Fr (blkS mv) w w' → IsG w' nv rv G := fun w' hf => hG.keep (hI.fr.then hf fun z hz => .inr (hI.gf.blk z hz))
      refine from_c (W0 := w) hfew hgk ⟨Fr.refl _ _, hI.hb, hI.fl⟩ hI.dp il hm fun O ov2 w1 hD hin _ hW hn2 ho2 => ?_
      have hol2 : (ord ++ O).length ≤ G.n := by have := hD.len; simpa using this
      rw [List.length_append] at hol2
      have f1 : Fr [] W w1 := hI.fr.then hW.fr fun z hz => .inr (hI.gf.blk z hz)
      have oo1 := hI.oo.keep' hW.fr fun g hg c => (hI.fl.ne hI.oo (by decide)) g c hg
      refine C.appIs' oo1 ho2.rd (by rw [natI_len, natI_len]; omega) fun ov' w2 oo2 hf2 hg2 => ?_
      have f2 : Fr [] W w2 := f1.then hf2 fun z hz => .inr (hI.no.blk z hz)
      refine nx ov' (ord ++ O) w2 ⟨f2, hf2.at_ hW.hb (oo1.nb hW.hb (by decide)), hW.fl.keep' hf2 (hW.fl.ne oo1 (by decide)), hI.gf, by rw [natI_app]; exact oo2, new_app hI.no f1.size hg2, hD⟩ fun v hv => ?_
      by_cases e : v = i
      · subst e; exact List.mem_append.2 (.inr hin)
      · exact List.mem_append.2 (.inl (hd v (by omega)))
end
end Go.Proofs.YtchonfdnghimdaaV
