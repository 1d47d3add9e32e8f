/- slices.Index, slices.Contains over numbers: what each call comes to. -/
import Derived.Test.YtchonfdnghimdaaLib1
namespace Go.Proofs.YtchonfdnghimdaaV
open Go Go.Proofs Go.RowKit
set_option linter.unusedVariables false
set_option linter.unusedSimpArgs false
section
variable {K : VK} {w : World}
theorem Index_loop {a : Value} {x : List Int} {n : Int} (ha : RdS w a 1 (intC x)) :
    ∀ (d j : Nat), x.length = j + d → (∀ r : Int, (0 ≤ r ↔ n ∈ x.drop j) → -1 ≤ r → K (.int .i64 r) w) → F47.l2 K a (.int .i64 n) (.int .i64 (x.length : Int)) (.int .i64 (j : Int)) w := by
  intro d
  induction d with
  | zero =>
    intro j hd h
    refine F47.l2.to ?_
    have e : ¬ ((j : Int) < (x.length : Int)) := by omega
    simp only [C.ite_true, C.ite_false, C.pick_true, C.pick_false, C.not_bool, C.field_ptr, C.nilCheck_ptr, C.add_mk, C.sub_mk, C.mul_mk, C.eql_mk, C.neq_mk, C.lss_mk, C.leq_mk, C.gtr_mk, C.geq_mk, C.conv_mk, C.len_mk, C.ext_0, C.ext_1, C.ext3_0, C.ext3_1, C.ext3_2, C.guarded_yes, C.guarded_tf, C.guarded_ft, C.guarded_undef, Bool.not_true, Bool.not_false, Nat.zero_add, eq_self, decide_true, decide_false, e]
    refine F47.k7.to (h _ ?_ (by omega))
    rw [List.drop_of_length_le (by omega)]
    simp
  | succ d ih =>
    intro j hd h
    have hle := ha.le
    rw [intC_len] at hle
    have jx : j < x.length := by omega
    refine F47.l2.to ?_
    have e : ((j : Int) < (x.length : Int)) := by omega
    simp only [C.ite_true, C.ite_false, C.pick_true, C.pick_false, C.not_bool, C.field_ptr, C.nilCheck_ptr, C.add_mk, C.sub_mk, C.mul_mk, C.eql_mk, C.neq_mk, C.lss_mk, C.leq_mk, C.gtr_mk, C.geq_mk, C.conv_mk, C.len_mk, C.ext_0, C.ext_1, C.ext3_0, C.ext3_1, C.ext3_2, C.guarded_yes, C.guarded_tf, C.guarded_ft, C.guarded_undef, Bool.not_true, Bool.not_false, Nat.zero_add, eq_self, decide_true, decide_false, e]
    refine F47.k3.to (C.idx_int ha jx fun g o cs e fz hg hc => C.load1_of hg hc ?_)
    simp only [C.ite_true, C.ite_false, C.pick_true, C.pick_false, C.not_bool, C.field_ptr, C.nilCheck_ptr, C.add_mk, C.sub_mk, C.mul_mk, C.eql_mk, C.neq_mk, C.lss_mk, C.leq_mk, C.gtr_mk, C.geq_mk, C.conv_mk, C.len_mk, C.ext_0, C.ext_1, C.ext3_0, C.ext3_1, C.ext3_2, C.guarded_yes, C.guarded_tf, C.guarded_ft, C.guarded_undef, Bool.not_true, Bool.not_false, Nat.zero_add, eq_self, decide_true, decide_false]
    by_cases hn : n = x[j]
    · rw [decide_eq_true hn]
      simp only [C.ite_true, C.ite_false, C.pick_true, C.pick_false, C.not_bool, C.field_ptr, C.nilCheck_ptr, C.add_mk, C.sub_mk, C.mul_mk, C.eql_mk, C.neq_mk, C.lss_mk, C.leq_mk, C.gtr_mk, C.geq_mk, C.conv_mk, C.len_mk, C.ext_0, C.ext_1, C.ext3_0, C.ext3_1, C.ext3_2, C.guarded_yes, C.guarded_tf, C.guarded_ft, C.guarded_undef, Bool.not_true, Bool.not_false, Nat.zero_add, eq_self, decide_true, decide_false]
      exact h _ ⟨fun _ => (mem_drop_iff jx n).2 (.inl hn), fun _ => by omega⟩ (by omega)
    · simp only [C.ite_true, C.ite_false, C.pick_true, C.pick_false, C.not_bool, C.field_ptr, C.nilCheck_ptr, C.add_mk, C.sub_mk, C.mul_mk, C.eql_mk, C.neq_mk, C.lss_mk, C.leq_mk, C.gtr_mk, C.geq_mk, C.conv_mk, C.len_mk, C.ext_0, C.ext_1, C.ext3_0, C.ext3_1, C.ext3_2, C.guarded_yes, C.guarded_tf, C.guarded_ft, C.guarded_undef, Bool.not_true, Bool.not_false, Nat.zero_add, eq_self, decide_true, decide_false, hn]
      refine F47.k6.to ?_
      simp only [C.ite_true, C.ite_false, C.pick_true, C.pick_false, C.not_bool, C.field_ptr, C.nilCheck_ptr, C.add_mk, C.sub_mk, C.mul_mk, C.eql_mk, C.neq_mk, C.lss_mk, C.leq_mk, C.gtr_mk, C.geq_mk, C.conv_mk, C.len_mk, C.ext_0, C.ext_1, C.ext3_0, C.ext3_1, C.ext3_2, C.guarded_yes, C.guarded_tf, C.guarded_ft, C.guarded_undef, Bool.not_true, Bool.not_false, Nat.zero_add, eq_self, decide_true, decide_false]
      rw [wrap64_id (n := (j : Int) + 1) (by omega), show (j : Int) + 1 = ((j + 1 : Nat) : Int) by omega]
      refine ih (j + 1) (by omega) fun r hr => h r ?_
      rw [hr, mem_drop_iff jx]
      simp [hn]
theorem Contains_c {a : Value} {x : List Int} {n : Int} (ha : RdS w a 1 (intC x)) (h : K (.bool (decide (n ∈ x))) w) : C.call Try.prog 29 #[a, .int .i64 n] w K := by
  refine F29.sh (F47.sh (C.len_rd ha ?_))
  rw [intC_len]
  refine Index_loop ha x.length 0 (by omega) fun r hr _ => ?_
  rw [List.drop_zero] at hr
  simp only [C.ite_true, C.ite_false, C.pick_true, C.pick_false, C.not_bool, C.field_ptr, C.nilCheck_ptr, C.add_mk, C.sub_mk, C.mul_mk, C.eql_mk, C.neq_mk, C.lss_mk, C.leq_mk, C.gtr_mk, C.geq_mk, C.conv_mk, C.len_mk, C.ext_0, C.ext_1, C.ext3_0, C.ext3_1, C.ext3_2, C.guarded_yes, C.guarded_tf, C.guarded_ft, C.guarded_undef, Bool.not_true, Bool.not_false, Nat.zero_add, eq_self, decide_true, decide_false]
  rw [show decide (r ≥ 0) = decide (n ∈ x) from decide_eq_decide.2 hr]
  exact h
end
end Go.Proofs.YtchonfdnghimdaaV
