/- The cache of pages: the map's keys; what a class and a clamp come to. -/
import Derived.Test.YtfdpmgddlaamcaaGCache
import Derived.Test.YtfdpmgddlaamcaaLibMap
import Derived.Laws.StructEq
namespace Go.Proofs.YtfdpmgddlaamcaaV
open Go Go.Proofs Go.RowKit
set_option linter.unusedVariables false
set_option linter.unusedSimpArgs false
set_option maxRecDepth 10000
def seatV (a : Int × Int) : Value := .agg #[.int .i64 a.1, .int .i64 a.2]
theorem seatFs : ∃ f g : Field, (Try.prog.fieldsOf 104).toList = [f, g] ∧ (f.name != "_") = true ∧ (g.name != "_") = true ∧ f.type = 3 ∧ g.type = 3 ∧ f.offset = 0 ∧ g.offset = 1 := ⟨(Try.prog.fieldsOf 104)[0]!, (Try.prog.fieldsOf 104)[1]!, by kernel_rfl, by kernel_rfl, by kernel_rfl, by kernel_rfl, by kernel_rfl, by kernel_rfl, by kernel_rfl⟩
theorem seatPart0 (x y : Int) (w : World) : (part 3 #[.int .i64 x, .int .i64 y] 0).run Try.prog w = .ok (.int .i64 x) w := by kernel_rfl
theorem seatPart1 (x y : Int) (w : World) : (part 3 #[.int .i64 x, .int .i64 y] 1).run Try.prog w = .ok (.int .i64 y) w := by kernel_rfl
theorem intEqIn (x y : Int) (w : World) (d : Nat) : (Op.equalIn (d + 1) 3 (.int .i64 x) (.int .i64 y)).run Try.prog w = .ok (x == y) w := by
  simp [Op.equalIn, run_underlying Try.underlying3]
theorem seatEqIn (a b : Int × Int) (w : World) (d : Nat) : (Op.equalIn (d + 1 + 1) 104 (seatV a) (seatV b)).run Try.prog w = .ok (decide (a.1 = b.1) && decide (a.2 = b.2)) w := by
  obtain ⟨f, g, e, hf, hg, tf, tg, of, og⟩ := seatFs
  have hf : (f.name ≠ "_") = True := by simpa using hf
  have hg : (g.name ≠ "_") = True := by simpa using hg
  unfold seatV
  rw [run_equalIn_struct w (d + 1) 104 _ _ Try.underlying104 (by kernel_rfl), e]
  simp only [Op.eqFields, hf, hg, tf, tg, of, og, if_true, Sem.run_bind, seatPart0, seatPart1, intEqIn, Result.andThen_ok]
  by_cases h1 : a.1 = b.1 <;> by_cases h2 : a.2 = b.2 <;> simp [h1, h2, intEqIn, seatPart1]
theorem seatEq (a b : Int × Int) (w : World) : (Op.equal 104 (seatV a) (seatV b)).run Try.prog w = .ok (decide (a = b)) w := by
  have e : decide (a = b) = (decide (a.1 = b.1) && decide (a.2 = b.2)) := by
    rw [Bool.eq_iff_iff]; simp [Prod.ext_iff]
  rw [e]
  exact seatEqIn a b w 9998
theorem seatCk (e : Bool) (a : Int × Int) (w : World) (d : Nat) : (Instr.checkKey e (d + 1 + 1) 104 (seatV a)).run Try.prog w = .ok () w := by
  kernel_rfl
theorem keySeat : KeyOf Try.prog 104 seatV :=
  KeyOf.asked Try.underlying104 (fun e a w => seatCk e a w 9998) (fun a b => rfl) seatEq (fun a => by
    have h : ∀ d, Instr.sameBits (d + 1 + 1) (seatV a) (seatV a) = true := fun d => by simp [seatV, Instr.sameBits]
    exact h 9998)
section
variable {K : VK} {w : World}
theorem Clamp_c {a b c : Int} (h : K (.int .i64 (if a < b then b else if a > c then c else a)) w) : C.call Try.prog 54 #[.int .i64 a, .int .i64 b, .int .i64 c] w K := by
  refine F54.sh ?_
  by_cases h1 : a < b
  · simp only [C.ite_true, C.ite_false, C.pick_true, C.pick_false, C.not_bool, C.field_ptr, C.nilCheck_ptr, C.add_mk, C.sub_mk, C.mul_mk, C.eql_mk, C.neq_mk, C.lss_mk, C.leq_mk, C.gtr_mk, C.geq_mk, C.conv_mk, C.len_mk, C.ext_0, C.ext_1, C.ext3_0, C.ext3_1, C.ext3_2, C.guarded_yes, C.guarded_tf, C.guarded_ft, C.guarded_undef, Bool.not_true, Bool.not_false, Nat.zero_add, eq_self, decide_true, decide_false, h1]
    rwa [if_pos h1] at h
  · rw [if_neg h1] at h
    by_cases h2 : a > c
    · simp only [C.ite_true, C.ite_false, C.pick_true, C.pick_false, C.not_bool, C.field_ptr, C.nilCheck_ptr, C.add_mk, C.sub_mk, C.mul_mk, C.eql_mk, C.neq_mk, C.lss_mk, C.leq_mk, C.gtr_mk, C.geq_mk, C.conv_mk, C.len_mk, C.ext_0, C.ext_1, C.ext3_0, C.ext3_1, C.ext3_2, C.guarded_yes, C.guarded_tf, C.guarded_ft, C.guarded_undef, Bool.not_true, Bool.not_false, Nat.zero_add, eq_self, decide_true, decide_false, h1, h2]
      rwa [if_pos h2] at h
    · simp only [C.ite_true, C.ite_false, C.pick_true, C.pick_false, C.not_bool, C.field_ptr, C.nilCheck_ptr, C.add_mk, C.sub_mk, C.mul_mk, C.eql_mk, C.neq_mk, C.lss_mk, C.leq_mk, C.gtr_mk, C.geq_mk, C.conv_mk, C.len_mk, C.ext_0, C.ext_1, C.ext3_0, C.ext3_1, C.ext3_2, C.guarded_yes, C.guarded_tf, C.guarded_ft, C.guarded_undef, Bool.not_true, Bool.not_false, Nat.zero_add, eq_self, decide_true, decide_false, h1, h2]
      rw [if_neg h2] at h
      exact F54.k5.to h
/-- The size of a class. -/
def csz (k : Int) : Int := if k = 1 then 2 else if k = 2 then 4 else if k = 3 then 8 else if k = 4 then 16 else 0
theorem Size_c {k : Int} (h : K (.int .i64 (csz k)) w) : C.call Try.prog 55 #[.int .i64 k] w K := by
  refine F55.sh ?_
  by_cases h1 : k < 1
  · simp only [C.ite_true, C.ite_false, C.pick_true, C.pick_false, C.not_bool, C.field_ptr, C.nilCheck_ptr, C.add_mk, C.sub_mk, C.mul_mk, C.eql_mk, C.neq_mk, C.lss_mk, C.leq_mk, C.gtr_mk, C.geq_mk, C.conv_mk, C.len_mk, C.ext_0, C.ext_1, C.ext3_0, C.ext3_1, C.ext3_2, C.guarded_yes, C.guarded_tf, C.guarded_ft, C.guarded_undef, Bool.not_true, Bool.not_false, Nat.zero_add, eq_self, decide_true, decide_false, h1]
    rwa [show csz k = 0 by unfold csz; repeat (rw [if_neg (by omega)])] at h
  · by_cases h2 : k ≥ 5
    · simp only [C.ite_true, C.ite_false, C.pick_true, C.pick_false, C.not_bool, C.field_ptr, C.nilCheck_ptr, C.add_mk, C.sub_mk, C.mul_mk, C.eql_mk, C.neq_mk, C.lss_mk, C.leq_mk, C.gtr_mk, C.geq_mk, C.conv_mk, C.len_mk, C.ext_0, C.ext_1, C.ext3_0, C.ext3_1, C.ext3_2, C.guarded_yes, C.guarded_tf, C.guarded_ft, C.guarded_undef, Bool.not_true, Bool.not_false, Nat.zero_add, eq_self, decide_true, decide_false, h1, h2]
      rwa [show csz k = 0 by unfold csz; repeat (rw [if_neg (by omega)])] at h
    · simp only [C.ite_true, C.ite_false, C.pick_true, C.pick_false, C.not_bool, C.field_ptr, C.nilCheck_ptr, C.add_mk, C.sub_mk, C.mul_mk, C.eql_mk, C.neq_mk, C.lss_mk, C.leq_mk, C.gtr_mk, C.geq_mk, C.conv_mk, C.len_mk, C.ext_0, C.ext_1, C.ext3_0, C.ext3_1, C.ext3_2, C.guarded_yes, C.guarded_tf, C.guarded_ft, C.guarded_undef, Bool.not_true, Bool.not_false, Nat.zero_add, eq_self, decide_true, decide_false, h1, h2]
      refine F55.k3.to ?_
      simp only [C.ite_true, C.ite_false, C.pick_true, C.pick_false, C.not_bool, C.field_ptr, C.nilCheck_ptr, C.add_mk, C.sub_mk, C.mul_mk, C.eql_mk, C.neq_mk, C.lss_mk, C.leq_mk, C.gtr_mk, C.geq_mk, C.conv_mk, C.len_mk, C.ext_0, C.ext_1, C.ext3_0, C.ext3_1, C.ext3_2, C.guarded_yes, C.guarded_tf, C.guarded_ft, C.guarded_undef, Bool.not_true, Bool.not_false, Nat.zero_add, eq_self, decide_true, decide_false]
      rw [wrap64_id (n := k - 1) (by omega)]
      have : k = 1 ∨ k = 2 ∨ k = 3 ∨ k = 4 := by omega
      rcases this with rfl | rfl | rfl | rfl
      · exact ⟨.int .i64 2, by kernel_rfl, h⟩
      · exact ⟨.int .i64 4, by kernel_rfl, h⟩
      · exact ⟨.int .i64 8, by kernel_rfl, h⟩
      · exact ⟨.int .i64 16, by kernel_rfl, h⟩
end
end Go.Proofs.YtfdpmgddlaamcaaV
