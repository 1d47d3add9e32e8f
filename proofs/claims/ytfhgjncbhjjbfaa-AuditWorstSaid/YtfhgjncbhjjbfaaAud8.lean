/- A window of two: what the call comes to. -/
import Derived.Test.YtfhgjncbhjjbfaaAud7
namespace Go.Proofs.YtfhgjncbhjjbfaaV
open Go Go.Proofs Go.RowKit
set_option linter.unusedVariables false
set_option linter.unusedSimpArgs false
set_option maxRecDepth 10000
def exL : List Stp := [⟨3, 0, 0, 0, 0, 2, 0⟩, ⟨16, 0, 0, 0, 0, 0, 0⟩]
def exA : List Ans := [⟨0, 0, 0, 1, 3⟩, ⟨0, 0, 0, 5, 0⟩]
section
variable {K : VK} {w : World}
theorem b27a : (Instr.build 27 #[(0, .int .i64 3), (5, .int .i64 2)]).run Try.prog w = .ok (stpV ⟨3, 0, 0, 0, 0, 2, 0⟩) w := by kernel_rfl
theorem b27b : (Instr.build 27 #[(0, .int .i64 16)]).run Try.prog w = .ok (stpV ⟨16, 0, 0, 0, 0, 0, 0⟩) w := by kernel_rfl
theorem b31a : (Instr.build 31 #[(3, .int .i64 1), (4, .int .i64 3)]).run Try.prog w = .ok (ansV ⟨0, 0, 0, 1, 3⟩) w := by kernel_rfl
theorem b31b : (Instr.build 31 #[(3, .int .i64 5)]).run Try.prog w = .ok (ansV ⟨0, 0, 0, 5, 0⟩) w := by kernel_rfl
theorem b40 : (Instr.build 40 #[(0, .int .i64 4), (1, .int .i64 4), (3, .int .i64 1)]).run Try.prog w = .ok (sumsV ⟨4, 0, 1⟩) w := by kernel_rfl
theorem b40_0 : (Instr.build 40 #[]).run Try.prog w = .ok (sumsV ⟨0, 0, 0⟩) w := by kernel_rfl
theorem bs22 : (Instr.buildSlice 22 2 #[(0, stpV ⟨3, 0, 0, 0, 0, 2, 0⟩), (1, stpV ⟨16, 0, 0, 0, 0, 0, 0⟩)]).run Try.prog w = .ok (.slice (some ⟨w.heap.size, 0, none⟩) 2 2) (w.alloc (.cells (stpC exL).flatten.toArray 27)) := by kernel_rfl
theorem bs23 : (Instr.buildSlice 23 2 #[(0, ansV ⟨0, 0, 0, 1, 3⟩), (1, ansV ⟨0, 0, 0, 5, 0⟩)]).run Try.prog w = .ok (.slice (some ⟨w.heap.size, 0, none⟩) 2 2) (w.alloc (.cells (ansC exA).flatten.toArray 31)) := by kernel_rfl
theorem bs33 (a b c : Bool) : (Instr.buildSlice 33 3 #[(0, .bool a), (1, .bool b), (2, .bool c)]).run Try.prog w = .ok (.slice (some ⟨w.heap.size, 0, none⟩) 3 3) (w.alloc (.cells (boolC [a, b, c]).flatten.toArray 4)) := by kernel_rfl
theorem rd33 (a b c : Bool) : RdS (w.alloc (.cells (boolC [a, b, c]).flatten.toArray 4)) (.slice (some ⟨w.heap.size, 0, none⟩) 3 3) 1 (boolC [a, b, c]) := RdS.of_block (New.mk' w _).at_ rfl (by simp) (by simp) (by simp [boolC]) (by simp [boolC])
theorem Alive_c (h : ∀ w', Fr [] w w' → K (.bool true) w') : C.call Try.prog 14 #[] w K := by
  refine F14.sh (C.run_of b27a (C.run_of b27b (C.run_of bs22 (C.run_of b31a (C.run_of b31b (C.run_of bs23 (C.run_of (bs33 _ _ _) ?_)))))))
  have hn1 := New.mk' w (.cells (stpC exL).flatten.toArray 27)
  have r1 : RdS (w.alloc (.cells (stpC exL).flatten.toArray 27)) (.slice (some ⟨w.heap.size, 0, none⟩) 2 2) 7 (stpC exL) := RdS.of_block hn1.at_ rfl (by simp) (by simp) (by simp [stpC, exL, stpL]) (by simp [stpC, exL, stpL])
  generalize w.alloc (.cells (stpC exL).flatten.toArray 27) = w1 at *
  have hn2 := New.mk' w1 (.cells (ansC exA).flatten.toArray 31)
  have r2 : RdS (w1.alloc (.cells (ansC exA).flatten.toArray 31)) (.slice (some ⟨w1.heap.size, 0, none⟩) 2 2) 5 (ansC exA) := RdS.of_block hn2.at_ rfl (by simp) (by simp) (by simp [ansC, exA, ansL]) (by simp [ansC, exA, ansL])
  generalize w1.alloc (.cells (ansC exA).flatten.toArray 31) = w2 at *
  have hn3 := New.mk' w2 (.cells (boolC [true, false, true]).flatten.toArray 4)
  have r3 := rd33 (w := w2) true false true
  generalize w2.alloc (.cells (boolC [true, false, true]).flatten.toArray 4) = w3 at *
  have f3 : Fr [] w w3 := (hn1.fr.trans hn2.fr).trans hn3.fr
  replace r1 := r1.keep (hn2.fr.trans hn3.fr)
  replace r2 := r2.keep hn3.fr
  refine Worst_c r3 ?_
  rw [show worstI [true, false, true] 2 = 1 by decide]
  simp only [C.ite_true, C.ite_false, C.pick_true, C.pick_false, C.not_bool, C.field_ptr, C.nilCheck_ptr, C.add_mk, C.sub_mk, C.mul_mk, C.eql_mk, C.neq_mk, C.lss_mk, C.leq_mk, C.gtr_mk, C.geq_mk, C.conv_mk, C.len_mk, C.ext_0, C.ext_1, C.ext3_0, C.ext3_1, C.ext3_2, C.guarded_yes, C.guarded_tf, C.guarded_ft, C.guarded_undef, Bool.not_true, Bool.not_false, Nat.zero_add, eq_self, decide_true, decide_false]
  refine Letters_c r1 r2 (by simp [exL]) fun v w4 hf4 ho => ?_
  rw [show ltrL 0 exL exA (min exL.length exA.length) = [true, true, false] by decide] at ho
  refine C.run_of (bs33 _ _ _) ?_
  have hn5 := New.mk' w4 (.cells (boolC [true, true, false]).flatten.toArray 4)
  refine Bools_c (ho.rd.keep hn5.fr) (rd33 _ _ _) fun w6 hf6 => ?_
  rw [decide_eq_true (rfl : [true, true, false] = [true, true, false])]
  simp only [C.ite_true, C.ite_false, C.pick_true, C.pick_false, C.not_bool, C.field_ptr, C.nilCheck_ptr, C.add_mk, C.sub_mk, C.mul_mk, C.eql_mk, C.neq_mk, C.lss_mk, C.leq_mk, C.gtr_mk, C.geq_mk, C.conv_mk, C.len_mk, C.ext_0, C.ext_1, C.ext3_0, C.ext3_1, C.ext3_2, C.guarded_yes, C.guarded_tf, C.guarded_ft, C.guarded_undef, Bool.not_true, Bool.not_false, Nat.zero_add, eq_self, decide_true, decide_false]
  have f36 : Fr [] w3 w6 := (hf4.trans hn5.fr).trans hf6
  refine Bank_c (r1.keep f36) (r2.keep f36) (by simp [exL]) fun w7 hf7 => ?_
  rw [show bsRun (clamp 4 0 65535) exL exA (min exL.length exA.length) = ⟨4, 0, 1⟩ by rfl]
  refine C.run_of b40 ?_
  refine ⟨_, eq40 _ _ _ _, ?_⟩
  rw [show ([(⟨4, 0, 1⟩ : BS).i - (⟨4, 0, 1⟩ : BS).o, (⟨4, 0, 1⟩ : BS).i, (⟨4, 0, 1⟩ : BS).o, (⟨4, 0, 1⟩ : BS).l] == [(⟨4, 0, 1⟩ : BS).i - (⟨4, 0, 1⟩ : BS).o, (⟨4, 0, 1⟩ : BS).i, (⟨4, 0, 1⟩ : BS).o, (⟨4, 0, 1⟩ : BS).l]) = true by decide]
  simp only [C.ite_true, C.ite_false, C.pick_true, C.pick_false, C.not_bool, C.field_ptr, C.nilCheck_ptr, C.add_mk, C.sub_mk, C.mul_mk, C.eql_mk, C.neq_mk, C.lss_mk, C.leq_mk, C.gtr_mk, C.geq_mk, C.conv_mk, C.len_mk, C.ext_0, C.ext_1, C.ext3_0, C.ext3_1, C.ext3_2, C.guarded_yes, C.guarded_tf, C.guarded_ft, C.guarded_undef, Bool.not_true, Bool.not_false, Nat.zero_add, eq_self, decide_true, decide_false]
  have f37 := f36.trans hf7
  refine Dear_c (r1.keep f37) (r2.keep f37) (by simp [exL]) fun w8 hf8 => ?_
  rw [show dearI 3 exL exA (min exL.length exA.length) = 0 by decide]
  simp only [C.ite_true, C.ite_false, C.pick_true, C.pick_false, C.not_bool, C.field_ptr, C.nilCheck_ptr, C.add_mk, C.sub_mk, C.mul_mk, C.eql_mk, C.neq_mk, C.lss_mk, C.leq_mk, C.gtr_mk, C.geq_mk, C.conv_mk, C.len_mk, C.ext_0, C.ext_1, C.ext3_0, C.ext3_1, C.ext3_2, C.guarded_yes, C.guarded_tf, C.guarded_ft, C.guarded_undef, Bool.not_true, Bool.not_false, Nat.zero_add, eq_self, decide_true, decide_false]
  have f38 := f37.trans hf8
  refine Dear_c (r1.keep f38) (r2.keep f38) (by simp [exL]) fun w9 hf9 => ?_
  rw [show dearI 4 exL exA (min exL.length exA.length) = -1 by decide]
  simp only [C.ite_true, C.ite_false, C.pick_true, C.pick_false, C.not_bool, C.field_ptr, C.nilCheck_ptr, C.add_mk, C.sub_mk, C.mul_mk, C.eql_mk, C.neq_mk, C.lss_mk, C.leq_mk, C.gtr_mk, C.geq_mk, C.conv_mk, C.len_mk, C.ext_0, C.ext_1, C.ext3_0, C.ext3_1, C.ext3_2, C.guarded_yes, C.guarded_tf, C.guarded_ft, C.guarded_undef, Bool.not_true, Bool.not_false, Nat.zero_add, eq_self, decide_true, decide_false]
  exact h w9 ((f3.trans f38).trans hf9)
end
end Go.Proofs.YtfhgjncbhjjbfaaV
