/- What is wrong with a view, by the program: what the call comes to. -/
import Derived.Test.YtfdpmgddlaamcaaVw9
namespace Go.Proofs.YtfdpmgddlaamcaaV
open Go Go.Proofs Go.RowKit
set_option linter.unusedVariables false
set_option linter.unusedSimpArgs false
set_option maxRecDepth 10000
section
variable {K : VK} {w : World}
theorem Check_c {rv nv : Value} {V : Vw} (hV : IsV w rv nv V) (hF : FitT V) (h : ∀ w', Fr [] w w' → K (.int .i64 (chkI V)) w') : C.call Try.prog 26 #[.agg #[rv, nv]] w K := by
  refine F26.sh (VB.new hV fun b w1 hf1 _ hb hV1 => pc_ris hV (fun w' hw hn => by have := h w' hw; rwa [chkI_9 hn] at this) (fun w2 hf2 hb2 hR => ?_) V.2.length 0 w1 (by omega) hf1 hb fun k a c hk => by omega)
  have hsum := hF.sum
  have htot := hF.tot
  refine F26.k6.to (hb2.all (lists_c (hV.keep hf2) hF.toFitV (by omega) fun o vs w3 hL => ?_))
  have f3 := hf2.trans hL.fr
  refine Concat_c hL.sp.rd hL.len (fun i a b => (hL.row i a b).keep hL.fr) (by rw [listsOf_flat]; exact htot) fun y w4 hf4 hn4 ho4 => ?_
  rw [listsOf_flat] at ho4
  have f4 := f3.trans hf4
  refine HasVa_c (p := OddVa) ho4.rd (fun w' x K' hw a b => odd_v a b) (fun w5 hf5 hno => ?_) fun w5 hf5 hx => ?_
  · have f5 := f4.trans hf5
    simp only [C.ite_true, C.ite_false, C.pick_true, C.pick_false, C.not_bool, C.field_ptr, C.nilCheck_ptr, C.add_mk, C.sub_mk, C.mul_mk, C.eql_mk, C.neq_mk, C.lss_mk, C.leq_mk, C.gtr_mk, C.geq_mk, C.conv_mk, C.len_mk, C.ext_0, C.ext_1, C.ext3_0, C.ext3_1, C.ext3_2, C.guarded_yes, C.guarded_tf, C.guarded_ft, C.guarded_undef, Bool.not_true, Bool.not_false, Nat.zero_add, eq_self, decide_true, decide_false]
    have hb5 : VB w5 b rv nv := ((hb2.keep hL.fr (by simp)).keep hf4 (by simp)).keep hf5 (by simp)
    refine F26.k9.to (HasVa_c (p := LostVa V.2) (ho4.rd.keep hf5) (fun w' x K' hw a b => lost_v (hV.keep (f5.trans hw)) (hb5.keep hw (by simp)) a b) (fun w6 hf6 hnl => ?_) fun w6 hf6 hx => ?_)
    · have f6 := f5.trans hf6
      simp only [C.ite_true, C.ite_false, C.pick_true, C.pick_false, C.not_bool, C.field_ptr, C.nilCheck_ptr, C.add_mk, C.sub_mk, C.mul_mk, C.eql_mk, C.neq_mk, C.lss_mk, C.leq_mk, C.gtr_mk, C.geq_mk, C.conv_mk, C.len_mk, C.ext_0, C.ext_1, C.ext3_0, C.ext3_1, C.ext3_2, C.guarded_yes, C.guarded_tf, C.guarded_ft, C.guarded_undef, Bool.not_true, Bool.not_false, Nat.zero_add, eq_self, decide_true, decide_false]
      refine F26.k11.to ((hb5.keep hf6 (by simp)).all (reach_c (hV.keep f6) hF.toFitV fun m w7 hf7 hn7 ho7 => HasB_c ho7.rd (fun hx => ?_) fun hx => ?_))
      · simp only [C.ite_true, C.ite_false, C.pick_true, C.pick_false, C.not_bool, C.field_ptr, C.nilCheck_ptr, C.add_mk, C.sub_mk, C.mul_mk, C.eql_mk, C.neq_mk, C.lss_mk, C.leq_mk, C.gtr_mk, C.geq_mk, C.conv_mk, C.len_mk, C.ext_0, C.ext_1, C.ext3_0, C.ext3_1, C.ext3_2, C.guarded_yes, C.guarded_tf, C.guarded_ft, C.guarded_undef, Bool.not_true, Bool.not_false, Nat.zero_add, eq_self, decide_true, decide_false]
        refine F26.k13.to ?_
        have := h w7 (f6.trans hf7)
        rwa [chkI_0 hR hno hnl hx] at this
      · simp only [C.ite_true, C.ite_false, C.pick_true, C.pick_false, C.not_bool, C.field_ptr, C.nilCheck_ptr, C.add_mk, C.sub_mk, C.mul_mk, C.eql_mk, C.neq_mk, C.lss_mk, C.leq_mk, C.gtr_mk, C.geq_mk, C.conv_mk, C.len_mk, C.ext_0, C.ext_1, C.ext3_0, C.ext3_1, C.ext3_2, C.guarded_yes, C.guarded_tf, C.guarded_ft, C.guarded_undef, Bool.not_true, Bool.not_false, Nat.zero_add, eq_self, decide_true, decide_false]
        have := h w7 (f6.trans hf7)
        rwa [chkI_10 hR hno hnl hx] at this
    · simp only [C.ite_true, C.ite_false, C.pick_true, C.pick_false, C.not_bool, C.field_ptr, C.nilCheck_ptr, C.add_mk, C.sub_mk, C.mul_mk, C.eql_mk, C.neq_mk, C.lss_mk, C.leq_mk, C.gtr_mk, C.geq_mk, C.conv_mk, C.len_mk, C.ext_0, C.ext_1, C.ext3_0, C.ext3_1, C.ext3_2, C.guarded_yes, C.guarded_tf, C.guarded_ft, C.guarded_undef, Bool.not_true, Bool.not_false, Nat.zero_add, eq_self, decide_true, decide_false]
      have := h w6 (f5.trans hf6)
      rwa [chkI_14 hR hno hx] at this
  · simp only [C.ite_true, C.ite_false, C.pick_true, C.pick_false, C.not_bool, C.field_ptr, C.nilCheck_ptr, C.add_mk, C.sub_mk, C.mul_mk, C.eql_mk, C.neq_mk, C.lss_mk, C.leq_mk, C.gtr_mk, C.geq_mk, C.conv_mk, C.len_mk, C.ext_0, C.ext_1, C.ext3_0, C.ext3_1, C.ext3_2, C.guarded_yes, C.guarded_tf, C.guarded_ft, C.guarded_undef, Bool.not_true, Bool.not_false, Nat.zero_add, eq_self, decide_true, decide_false]
    have := h w5 (f4.trans hf5)
    rwa [chkI_4 hR hx] at this
end
end Go.Proofs.YtfdpmgddlaamcaaV
