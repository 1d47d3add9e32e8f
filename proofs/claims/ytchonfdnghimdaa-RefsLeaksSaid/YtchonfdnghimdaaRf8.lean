/- RefsLeaks: the example; a few. -/
import Derived.Test.YtchonfdnghimdaaRf7
import Derived.Test.YtchonfdnghimdaaGrf
namespace Go.Proofs.YtchonfdnghimdaaV
open Go Go.Proofs Go.RowKit
set_option linter.unusedVariables false
set_option linter.unusedSimpArgs false
set_option maxRecDepth 10000
def gC : Gr := ⟨[[1], [0], [3], [], []], [4, 4]⟩
theorem gC1 : gC.countsL = [1, 1, 0, 1, 2] := by decide +kernel
theorem gC2 : natC gC.freeL = [2, 3] := by decide +kernel
theorem gC3 : natC gC.leakL = [0, 1] := by decide +kernel
section
variable {K : VK} {w : World}
theorem alive35_c (h : ∀ w', Fr [] w w' → K (.bool true) w') : C.call Try.prog 17 #[] w K := by
  refine F17.sh (C.litI fun s1 w1 hf1 hr1 => C.litI fun s2 w2 hf2 hr2 => C.litI fun s3 w3 hf3 hr3 => ?_)
  refine C.litS5 ((hr1.keep hf2).keep hf3) (hr2.keep hf3) hr3 (OwnS.nil w3 3 1).rd (OwnS.nil w3 3 1).rd (t := []) (u := []) fun nv w4 hf4 hn4 => C.litI2 fun rv w5 hf5 hr5 => ?_
  have hG : IsG w5 nv rv gC := ⟨hn4.keep hf5, hr5, by decide, by decide, by decide⟩
  refine C.mkG hG fun b w6 hf6 hb6 hb hG6 => ?_
  have f06 : Fr [] w w6 := ((((hf1.trans hf2).trans hf3).trans hf4).trans hf5).trans hf6
  refine hb.all (Counts_c hG6 fun v w7 hf7 hn7 ho7 => C.litI5 fun u w8 hf8 hr8 => Ints_c (ho7.rd.keep hf8) hr8 fun w9 hf9 => ?_)
  have f69 := (hf7.trans hf8).trans hf9
  rw [decide_eq_true gC1]
  try simp only [C.ite_true, C.ite_false, C.pick_true, C.pick_false, C.not_bool, C.field_ptr, C.nilCheck_ptr, C.add_mk, C.sub_mk, C.mul_mk, C.eql_mk, C.neq_mk, C.lss_mk, C.leq_mk, C.gtr_mk, C.geq_mk, C.conv_mk, C.len_mk, C.ext_0, C.ext_1, C.ext3_0, C.ext3_1, C.ext3_2, C.guarded_yes, C.guarded_tf, C.guarded_ft, C.guarded_undef, Bool.not_true, Bool.not_false, Nat.zero_add, eq_self, decide_true, decide_false]
  refine (hb.keep f69 (by simp)).all (Falls_c (hG6.keep f69) fun v w7 hf7 hn7 ho7 => C.litI2 fun u w8 hf8 hr8 => Ints_c (ho7.rd.keep hf8) hr8 fun w10 hf10 => ?_)
  have f610 := ((f69.trans hf7).trans hf8).trans hf10
  rw [decide_eq_true gC2]
  try simp only [C.ite_true, C.ite_false, C.pick_true, C.pick_false, C.not_bool, C.field_ptr, C.nilCheck_ptr, C.add_mk, C.sub_mk, C.mul_mk, C.eql_mk, C.neq_mk, C.lss_mk, C.leq_mk, C.gtr_mk, C.geq_mk, C.conv_mk, C.len_mk, C.ext_0, C.ext_1, C.ext3_0, C.ext3_1, C.ext3_2, C.guarded_yes, C.guarded_tf, C.guarded_ft, C.guarded_undef, Bool.not_true, Bool.not_false, Nat.zero_add, eq_self, decide_true, decide_false]
  refine (hb.keep f610 (by simp)).all (Leaks_c (hG6.keep f610) fun v w7 hf7 hn7 ho7 => C.litI2 fun u w8 hf8 hr8 => Ints_c (ho7.rd.keep hf8) hr8 fun w11 hf11 => ?_)
  have f611 := ((f610.trans hf7).trans hf8).trans hf11
  rw [decide_eq_true gC3]
  try simp only [C.ite_true, C.ite_false, C.pick_true, C.pick_false, C.not_bool, C.field_ptr, C.nilCheck_ptr, C.add_mk, C.sub_mk, C.mul_mk, C.eql_mk, C.neq_mk, C.lss_mk, C.leq_mk, C.gtr_mk, C.geq_mk, C.conv_mk, C.len_mk, C.ext_0, C.ext_1, C.ext3_0, C.ext3_1, C.ext3_2, C.guarded_yes, C.guarded_tf, C.guarded_ft, C.guarded_undef, Bool.not_true, Bool.not_false, Nat.zero_add, eq_self, decide_true, decide_false]
  exact h w11 (f06.trans f611)
theorem few35_c {W0 : World} {nv rv : Value} {G : Gr} (hG : IsG0 W0 nv rv G) (hf0 : Fr [] W0 w) (h : ∀ nv' w', Fr [] w w' → IsG W0 nv' rv (G.cut 20) → K (.agg #[nv', rv]) w') : C.call Try.prog 18 #[.agg #[nv, rv]] w K := by
  refine F18.sh (GBlk.new0 (hG.keep hf0) fun b w1 hf1 hb1 hb hG1 => C.new_of fun b2 w2 hw2 => ?_)
  have hb2 := hb.keep hw2.fr (by simp)
  have e2 := hw2.is
  have e2' := hw2.sz
  have s1 := hf1.size
  have hl := hG.le
  have lb := lt_of_at hb
  have f2 := hf1.trans hw2.fr
  have fin : ∀ nv' w3, Fr [] w w3 → IsG W0 nv' rv (G.cut 20) → GBlk w3 b 25 nv' rv → w3.heap[b2]? = some (.cells #[.slice none 0 0, .slice none 0 0] 25 (0, 0)) → F18.k3 K (.pointer (some ⟨b, 0, none⟩)) (.pointer (some ⟨b2, 0, none⟩)) w3 := by
    intro nv' w3 f3 hG3 hb3 h23
    refine F18.k3.to (hb3.all (GBlk.set h23 (hG3.keep (hf0.trans f3)) fun w4 hu => C.loadA_all hu.at_ rfl ?_))
    have fr : Fr [] w w4 := f3.then hu.fr fun x hx => .inr (by simp only [List.mem_singleton] at hx; omega)
    exact h nv' w4 fr hG3
  have hG' := hG
  obtain ⟨A, c, B, d, rfl, rfl⟩ := hG.slices
  simp only [C.ite_true, C.ite_false, C.pick_true, C.pick_false, C.not_bool, C.field_ptr, C.nilCheck_ptr, C.add_mk, C.sub_mk, C.mul_mk, C.eql_mk, C.neq_mk, C.lss_mk, C.leq_mk, C.gtr_mk, C.geq_mk, C.conv_mk, C.len_mk, C.ext_0, C.ext_1, C.ext3_0, C.ext3_1, C.ext3_2, C.guarded_yes, C.guarded_tf, C.guarded_ft, C.guarded_undef, Bool.not_true, Bool.not_false, Nat.zero_add, eq_self, decide_true, decide_false]
  refine C.load1_of (v := .slice A G.n c) hb2 rfl ?_
  simp only [C.ite_true, C.ite_false, C.pick_true, C.pick_false, C.not_bool, C.field_ptr, C.nilCheck_ptr, C.add_mk, C.sub_mk, C.mul_mk, C.eql_mk, C.neq_mk, C.lss_mk, C.leq_mk, C.gtr_mk, C.geq_mk, C.conv_mk, C.len_mk, C.ext_0, C.ext_1, C.ext3_0, C.ext3_1, C.ext3_2, C.guarded_yes, C.guarded_tf, C.guarded_ft, C.guarded_undef, Bool.not_true, Bool.not_false, Nat.zero_add, eq_self, decide_true, decide_false]
  by_cases hc : (G.n : Int) > 20
  · simp only [C.ite_true, C.ite_false, C.pick_true, C.pick_false, C.not_bool, C.field_ptr, C.nilCheck_ptr, C.add_mk, C.sub_mk, C.mul_mk, C.eql_mk, C.neq_mk, C.lss_mk, C.leq_mk, C.gtr_mk, C.geq_mk, C.conv_mk, C.len_mk, C.ext_0, C.ext_1, C.ext3_0, C.ext3_1, C.ext3_2, C.guarded_yes, C.guarded_tf, C.guarded_ft, C.guarded_undef, Bool.not_true, Bool.not_false, Nat.zero_add, eq_self, decide_true, decide_false, hc]
    refine C.load1_of (v := .slice A G.n c) hb2 rfl ?_
    obtain ⟨vs, ⟨A', c', he, hle, _⟩, hvl, _⟩ := hG.next
    simp only [Value.slice.injEq] at he
    obtain ⟨rfl, he, rfl⟩ := he
    refine C.run_of (sliceTo_run (sz := 1) _ _ _ _ _ Try.underlying22 (by kernel_rfl) (by omega) (by omega)) ?_
    rw [show (20 : Int).toNat = 20 from rfl]
    try simp only [C.ite_true, C.ite_false, C.pick_true, C.pick_false, C.not_bool, C.field_ptr, C.nilCheck_ptr, C.add_mk, C.sub_mk, C.mul_mk, C.eql_mk, C.neq_mk, C.lss_mk, C.leq_mk, C.gtr_mk, C.geq_mk, C.conv_mk, C.len_mk, C.ext_0, C.ext_1, C.ext3_0, C.ext3_1, C.ext3_2, C.guarded_yes, C.guarded_tf, C.guarded_ft, C.guarded_undef, Bool.not_true, Bool.not_false, Nat.zero_add, eq_self, decide_true, decide_false]
    refine C.store1_of hb2 rfl rfl (by simp) fun w3 hu => ?_
    have fr : Fr [] w w3 := f2.then hu.fr fun x hx => .inr (by simp only [List.mem_singleton] at hx; omega)
    refine fin (.slice A 20 c) w3 fr ⟨hG'.next.take (by omega), hG'.roots, Nat.le_trans (cut_n _ _) (by omega), hG'.rlen, fun r hr => hG'.nlen r (List.mem_of_mem_take hr)⟩ hu.at_ (hu.fr.at_ hw2.at_ (by simp; omega))
  · simp only [C.ite_true, C.ite_false, C.pick_true, C.pick_false, C.not_bool, C.field_ptr, C.nilCheck_ptr, C.add_mk, C.sub_mk, C.mul_mk, C.eql_mk, C.neq_mk, C.lss_mk, C.leq_mk, C.gtr_mk, C.geq_mk, C.conv_mk, C.len_mk, C.ext_0, C.ext_1, C.ext3_0, C.ext3_1, C.ext3_2, C.guarded_yes, C.guarded_tf, C.guarded_ft, C.guarded_undef, Bool.not_true, Bool.not_false, Nat.zero_add, eq_self, decide_true, decide_false, hc]
    have e : G.cut 20 = G := cut_id (by omega)
    exact fin _ w2 f2 (by rw [e]; exact hG'.isG (by omega)) hb2 hw2.at_
end
end Go.Proofs.YtchonfdnghimdaaV
