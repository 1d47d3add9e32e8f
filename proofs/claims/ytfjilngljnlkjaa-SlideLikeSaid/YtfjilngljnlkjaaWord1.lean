/- The functions of package word, and of its reference: what each call comes to. -/
import Derived.Test.YtfjilngljnlkjaaGWord
import Derived.Test.YtfjilngljnlkjaaEq
namespace Go.Proofs.YtfjilngljnlkjaaV
open Go Go.Proofs
set_option linter.unusedVariables false
set_option linter.unusedSimpArgs false

def V (k n : Int) : Value := .agg #[.int .i64 k, .int .i64 n]
def vB (k n : Int) : Obj := .cells #[.int .i64 k, .int .i64 n] 75 (0, 0)
def chk (k n : Int) : Int := if k = 0 then (if n = 0 then 0 else 4) else if k = 1 then (if -1099511627776 ≤ n ∧ n < 1099511627776 then 0 else 4) else if k = 2 then (if 0 ≤ n ∧ n < 2048 then 0 else 4) else 12
def putW (k n : Int) : Int := if k = 2 then 2 * n + 2 else if k = 1 then 2 * n + 1 else 0
def rdK (a : Int) : Int := if a % 2 = 1 then 1 else if a = 0 then 0 else 2
def rdN (a : Int) : Int := if a % 2 = 1 then a / 2 else if a = 0 then 0 else a.tdiv 2 - 1
theorem tdiv2 (a : Int) (h : a % 2 = 0) : a.tdiv 2 = a / 2 := Int.tdiv_eq_ediv_of_dvd (Int.dvd_of_emod_eq_zero h)
theorem v2_cells {k n : Int} : ∀ v ∈ (V k n).cells.toList, v.oneCell' = true := by
  intro v hv
  simp only [V, Value.cells, List.mem_cons, List.not_mem_nil, or_false] at hv
  rcases hv with rfl | rfl <;> rfl
section
variable {K : VK} {w : World}
theorem veq (x y : Operand) (a b c d : Int) : (do eqGuard .eql 75 x y (V a b) (V c d); binOp .eql 75 (V a b) (V c d) : Sem Value).run Try.prog w = .ok (.bool (decide (a = c ∧ b = d))) w := by
  have h := eq_ints (w := w) (ks := [.i64, .i64]) x y Try.underlying75 (by kernel_rfl) (by kernel_rfl) (by kernel_rfl) [a, b] [c, d] rfl rfl
  have e : ([a, b] == [c, d]) = decide (a = c ∧ b = d) := by rw [Bool.eq_iff_iff]; simp
  rw [e] at h
  exact h
theorem vneq (x y : Operand) (a b c d : Int) : (do eqGuard .neq 75 x y (V a b) (V c d); binOp .neq 75 (V a b) (V c d) : Sem Value).run Try.prog w = .ok (.bool (!decide (a = c ∧ b = d))) w := by
  have h := neq_ints (w := w) (ks := [.i64, .i64]) x y Try.underlying75 (by kernel_rfl) (by kernel_rfl) (by kernel_rfl) [a, b] [c, d] rfl rfl
  have e : ([a, b] == [c, d]) = decide (a = c ∧ b = d) := by rw [Bool.eq_iff_iff]; simp
  rw [e] at h
  exact h
theorem buildV (a b : Int) : (Instr.build 75 #[(0, .int .i64 a), (1, .int .i64 b)]).run Try.prog w = .ok (V a b) w := by kernel_rfl
theorem buildV_0 : (Instr.build 75 #[]).run Try.prog w = .ok (V 0 0) w := by kernel_rfl
theorem buildV_1 (a : Int) : (Instr.build 75 #[(0, .int .i64 a)]).run Try.prog w = .ok (V a 0) w := by kernel_rfl
theorem Check_c (k n : Int) (h : ∀ w', Fr [] w w' → K (.int .i64 (chk k n)) w') : C.call Try.prog 85 #[V k n] w K := by
  refine F85.sh (C.new_of fun b w1 hn => ?_)
  have hb : w1.heap[b]? = some (vB k n) := hn.at_
  have h := h w1 hn.fr
  unfold chk at h
  try simp only [C.ite_true, C.ite_false, C.pick_true, C.pick_false, C.not_bool, C.field_ptr, C.nilCheck_ptr, C.add_mk, C.sub_mk, C.mul_mk, C.eql_mk, C.neq_mk, C.lss_mk, C.leq_mk, C.gtr_mk, C.geq_mk, C.conv_mk, C.len_mk, C.ext_0, C.ext_1, C.ext3_0, C.ext3_1, C.ext3_2, C.guarded_yes, C.guarded_tf, C.guarded_ft, C.guarded_undef, Bool.not_true, Bool.not_false, Nat.zero_add, eq_self, decide_true, decide_false]
  refine C.load1_of (v := .int .i64 k) hb rfl ?_
  by_cases k0 : k = 0
  · simp only [C.ite_true, C.ite_false, C.pick_true, C.pick_false, C.not_bool, C.field_ptr, C.nilCheck_ptr, C.add_mk, C.sub_mk, C.mul_mk, C.eql_mk, C.neq_mk, C.lss_mk, C.leq_mk, C.gtr_mk, C.geq_mk, C.conv_mk, C.len_mk, C.ext_0, C.ext_1, C.ext3_0, C.ext3_1, C.ext3_2, C.guarded_yes, C.guarded_tf, C.guarded_ft, C.guarded_undef, Bool.not_true, Bool.not_false, Nat.zero_add, eq_self, decide_true, decide_false, k0]
    refine C.load1_of (v := .int .i64 n) hb rfl ?_
    rw [if_pos k0] at h
    refine (C.eql_mk ..).2 (F85.k10.to ?_)
    by_cases n0 : n = 0
    · rw [if_pos n0] at h
      simp only [C.ite_true, C.ite_false, C.pick_true, C.pick_false, C.not_bool, C.field_ptr, C.nilCheck_ptr, C.add_mk, C.sub_mk, C.mul_mk, C.eql_mk, C.neq_mk, C.lss_mk, C.leq_mk, C.gtr_mk, C.geq_mk, C.conv_mk, C.len_mk, C.ext_0, C.ext_1, C.ext3_0, C.ext3_1, C.ext3_2, C.guarded_yes, C.guarded_tf, C.guarded_ft, C.guarded_undef, Bool.not_true, Bool.not_false, Nat.zero_add, eq_self, decide_true, decide_false, n0]
      exact F85.k12.to h
    · rw [if_neg n0] at h
      simp only [C.ite_true, C.ite_false, C.pick_true, C.pick_false, C.not_bool, C.field_ptr, C.nilCheck_ptr, C.add_mk, C.sub_mk, C.mul_mk, C.eql_mk, C.neq_mk, C.lss_mk, C.leq_mk, C.gtr_mk, C.geq_mk, C.conv_mk, C.len_mk, C.ext_0, C.ext_1, C.ext3_0, C.ext3_1, C.ext3_2, C.guarded_yes, C.guarded_tf, C.guarded_ft, C.guarded_undef, Bool.not_true, Bool.not_false, Nat.zero_add, eq_self, decide_true, decide_false, n0]
      exact h
  · rw [if_neg k0] at h
    by_cases k1 : k = 1
    · rw [if_pos k1] at h
      simp only [C.ite_true, C.ite_false, C.pick_true, C.pick_false, C.not_bool, C.field_ptr, C.nilCheck_ptr, C.add_mk, C.sub_mk, C.mul_mk, C.eql_mk, C.neq_mk, C.lss_mk, C.leq_mk, C.gtr_mk, C.geq_mk, C.conv_mk, C.len_mk, C.ext_0, C.ext_1, C.ext3_0, C.ext3_1, C.ext3_2, C.guarded_yes, C.guarded_tf, C.guarded_ft, C.guarded_undef, Bool.not_true, Bool.not_false, Nat.zero_add, eq_self, decide_true, decide_false, k1, show ¬ (1 : Int) = 0 by decide]
      refine C.load1_of (v := .int .i64 n) hb rfl ?_
      try simp only [C.ite_true, C.ite_false, C.pick_true, C.pick_false, C.not_bool, C.field_ptr, C.nilCheck_ptr, C.add_mk, C.sub_mk, C.mul_mk, C.eql_mk, C.neq_mk, C.lss_mk, C.leq_mk, C.gtr_mk, C.geq_mk, C.conv_mk, C.len_mk, C.ext_0, C.ext_1, C.ext3_0, C.ext3_1, C.ext3_2, C.guarded_yes, C.guarded_tf, C.guarded_ft, C.guarded_undef, Bool.not_true, Bool.not_false, Nat.zero_add, eq_self, decide_true, decide_false]
      by_cases h1 : n ≥ -1099511627776
      · simp only [C.ite_true, C.ite_false, C.pick_true, C.pick_false, C.not_bool, C.field_ptr, C.nilCheck_ptr, C.add_mk, C.sub_mk, C.mul_mk, C.eql_mk, C.neq_mk, C.lss_mk, C.leq_mk, C.gtr_mk, C.geq_mk, C.conv_mk, C.len_mk, C.ext_0, C.ext_1, C.ext3_0, C.ext3_1, C.ext3_2, C.guarded_yes, C.guarded_tf, C.guarded_ft, C.guarded_undef, Bool.not_true, Bool.not_false, Nat.zero_add, eq_self, decide_true, decide_false, h1]
        refine C.load1_of (v := .int .i64 n) hb rfl ?_
        try simp only [C.ite_true, C.ite_false, C.pick_true, C.pick_false, C.not_bool, C.field_ptr, C.nilCheck_ptr, C.add_mk, C.sub_mk, C.mul_mk, C.eql_mk, C.neq_mk, C.lss_mk, C.leq_mk, C.gtr_mk, C.geq_mk, C.conv_mk, C.len_mk, C.ext_0, C.ext_1, C.ext3_0, C.ext3_1, C.ext3_2, C.guarded_yes, C.guarded_tf, C.guarded_ft, C.guarded_undef, Bool.not_true, Bool.not_false, Nat.zero_add, eq_self, decide_true, decide_false]
        refine F85.k10.to ?_
        by_cases h2 : n < 1099511627776
        · rw [if_pos ⟨h1, h2⟩] at h
          simp only [C.ite_true, C.ite_false, C.pick_true, C.pick_false, C.not_bool, C.field_ptr, C.nilCheck_ptr, C.add_mk, C.sub_mk, C.mul_mk, C.eql_mk, C.neq_mk, C.lss_mk, C.leq_mk, C.gtr_mk, C.geq_mk, C.conv_mk, C.len_mk, C.ext_0, C.ext_1, C.ext3_0, C.ext3_1, C.ext3_2, C.guarded_yes, C.guarded_tf, C.guarded_ft, C.guarded_undef, Bool.not_true, Bool.not_false, Nat.zero_add, eq_self, decide_true, decide_false, h2]
          exact F85.k12.to h
        · rw [if_neg (by omega)] at h
          simp only [C.ite_true, C.ite_false, C.pick_true, C.pick_false, C.not_bool, C.field_ptr, C.nilCheck_ptr, C.add_mk, C.sub_mk, C.mul_mk, C.eql_mk, C.neq_mk, C.lss_mk, C.leq_mk, C.gtr_mk, C.geq_mk, C.conv_mk, C.len_mk, C.ext_0, C.ext_1, C.ext3_0, C.ext3_1, C.ext3_2, C.guarded_yes, C.guarded_tf, C.guarded_ft, C.guarded_undef, Bool.not_true, Bool.not_false, Nat.zero_add, eq_self, decide_true, decide_false, h2]
          exact h
      · rw [if_neg (by omega)] at h
        simp only [C.ite_true, C.ite_false, C.pick_true, C.pick_false, C.not_bool, C.field_ptr, C.nilCheck_ptr, C.add_mk, C.sub_mk, C.mul_mk, C.eql_mk, C.neq_mk, C.lss_mk, C.leq_mk, C.gtr_mk, C.geq_mk, C.conv_mk, C.len_mk, C.ext_0, C.ext_1, C.ext3_0, C.ext3_1, C.ext3_2, C.guarded_yes, C.guarded_tf, C.guarded_ft, C.guarded_undef, Bool.not_true, Bool.not_false, Nat.zero_add, eq_self, decide_true, decide_false, h1]
        refine F85.k10.to ?_
        try simp only [C.ite_true, C.ite_false, C.pick_true, C.pick_false, C.not_bool, C.field_ptr, C.nilCheck_ptr, C.add_mk, C.sub_mk, C.mul_mk, C.eql_mk, C.neq_mk, C.lss_mk, C.leq_mk, C.gtr_mk, C.geq_mk, C.conv_mk, C.len_mk, C.ext_0, C.ext_1, C.ext3_0, C.ext3_1, C.ext3_2, C.guarded_yes, C.guarded_tf, C.guarded_ft, C.guarded_undef, Bool.not_true, Bool.not_false, Nat.zero_add, eq_self, decide_true, decide_false]
        exact h
    · rw [if_neg k1] at h
      by_cases k2 : k = 2
      · rw [if_pos k2] at h
        simp only [C.ite_true, C.ite_false, C.pick_true, C.pick_false, C.not_bool, C.field_ptr, C.nilCheck_ptr, C.add_mk, C.sub_mk, C.mul_mk, C.eql_mk, C.neq_mk, C.lss_mk, C.leq_mk, C.gtr_mk, C.geq_mk, C.conv_mk, C.len_mk, C.ext_0, C.ext_1, C.ext3_0, C.ext3_1, C.ext3_2, C.guarded_yes, C.guarded_tf, C.guarded_ft, C.guarded_undef, Bool.not_true, Bool.not_false, Nat.zero_add, eq_self, decide_true, decide_false, k2, show ¬ (2 : Int) = 0 by decide, show ¬ (2 : Int) = 1 by decide]
        refine C.load1_of (v := .int .i64 n) hb rfl ?_
        try simp only [C.ite_true, C.ite_false, C.pick_true, C.pick_false, C.not_bool, C.field_ptr, C.nilCheck_ptr, C.add_mk, C.sub_mk, C.mul_mk, C.eql_mk, C.neq_mk, C.lss_mk, C.leq_mk, C.gtr_mk, C.geq_mk, C.conv_mk, C.len_mk, C.ext_0, C.ext_1, C.ext3_0, C.ext3_1, C.ext3_2, C.guarded_yes, C.guarded_tf, C.guarded_ft, C.guarded_undef, Bool.not_true, Bool.not_false, Nat.zero_add, eq_self, decide_true, decide_false]
        by_cases h1 : n ≥ 0
        · simp only [C.ite_true, C.ite_false, C.pick_true, C.pick_false, C.not_bool, C.field_ptr, C.nilCheck_ptr, C.add_mk, C.sub_mk, C.mul_mk, C.eql_mk, C.neq_mk, C.lss_mk, C.leq_mk, C.gtr_mk, C.geq_mk, C.conv_mk, C.len_mk, C.ext_0, C.ext_1, C.ext3_0, C.ext3_1, C.ext3_2, C.guarded_yes, C.guarded_tf, C.guarded_ft, C.guarded_undef, Bool.not_true, Bool.not_false, Nat.zero_add, eq_self, decide_true, decide_false, h1]
          refine C.load1_of (v := .int .i64 n) hb rfl ?_
          try simp only [C.ite_true, C.ite_false, C.pick_true, C.pick_false, C.not_bool, C.field_ptr, C.nilCheck_ptr, C.add_mk, C.sub_mk, C.mul_mk, C.eql_mk, C.neq_mk, C.lss_mk, C.leq_mk, C.gtr_mk, C.geq_mk, C.conv_mk, C.len_mk, C.ext_0, C.ext_1, C.ext3_0, C.ext3_1, C.ext3_2, C.guarded_yes, C.guarded_tf, C.guarded_ft, C.guarded_undef, Bool.not_true, Bool.not_false, Nat.zero_add, eq_self, decide_true, decide_false]
          refine F85.k10.to ?_
          by_cases h2 : n < 2048
          · rw [if_pos ⟨h1, h2⟩] at h
            simp only [C.ite_true, C.ite_false, C.pick_true, C.pick_false, C.not_bool, C.field_ptr, C.nilCheck_ptr, C.add_mk, C.sub_mk, C.mul_mk, C.eql_mk, C.neq_mk, C.lss_mk, C.leq_mk, C.gtr_mk, C.geq_mk, C.conv_mk, C.len_mk, C.ext_0, C.ext_1, C.ext3_0, C.ext3_1, C.ext3_2, C.guarded_yes, C.guarded_tf, C.guarded_ft, C.guarded_undef, Bool.not_true, Bool.not_false, Nat.zero_add, eq_self, decide_true, decide_false, h2]
            exact F85.k12.to h
          · rw [if_neg (by omega)] at h
            simp only [C.ite_true, C.ite_false, C.pick_true, C.pick_false, C.not_bool, C.field_ptr, C.nilCheck_ptr, C.add_mk, C.sub_mk, C.mul_mk, C.eql_mk, C.neq_mk, C.lss_mk, C.leq_mk, C.gtr_mk, C.geq_mk, C.conv_mk, C.len_mk, C.ext_0, C.ext_1, C.ext3_0, C.ext3_1, C.ext3_2, C.guarded_yes, C.guarded_tf, C.guarded_ft, C.guarded_undef, Bool.not_true, Bool.not_false, Nat.zero_add, eq_self, decide_true, decide_false, h2]
            exact h
        · rw [if_neg (by omega)] at h
          simp only [C.ite_true, C.ite_false, C.pick_true, C.pick_false, C.not_bool, C.field_ptr, C.nilCheck_ptr, C.add_mk, C.sub_mk, C.mul_mk, C.eql_mk, C.neq_mk, C.lss_mk, C.leq_mk, C.gtr_mk, C.geq_mk, C.conv_mk, C.len_mk, C.ext_0, C.ext_1, C.ext3_0, C.ext3_1, C.ext3_2, C.guarded_yes, C.guarded_tf, C.guarded_ft, C.guarded_undef, Bool.not_true, Bool.not_false, Nat.zero_add, eq_self, decide_true, decide_false, h1]
          refine F85.k10.to ?_
          try simp only [C.ite_true, C.ite_false, C.pick_true, C.pick_false, C.not_bool, C.field_ptr, C.nilCheck_ptr, C.add_mk, C.sub_mk, C.mul_mk, C.eql_mk, C.neq_mk, C.lss_mk, C.leq_mk, C.gtr_mk, C.geq_mk, C.conv_mk, C.len_mk, C.ext_0, C.ext_1, C.ext3_0, C.ext3_1, C.ext3_2, C.guarded_yes, C.guarded_tf, C.guarded_ft, C.guarded_undef, Bool.not_true, Bool.not_false, Nat.zero_add, eq_self, decide_true, decide_false]
          exact h
      · rw [if_neg k2] at h
        simp only [C.ite_true, C.ite_false, C.pick_true, C.pick_false, C.not_bool, C.field_ptr, C.nilCheck_ptr, C.add_mk, C.sub_mk, C.mul_mk, C.eql_mk, C.neq_mk, C.lss_mk, C.leq_mk, C.gtr_mk, C.geq_mk, C.conv_mk, C.len_mk, C.ext_0, C.ext_1, C.ext3_0, C.ext3_1, C.ext3_2, C.guarded_yes, C.guarded_tf, C.guarded_ft, C.guarded_undef, Bool.not_true, Bool.not_false, Nat.zero_add, eq_self, decide_true, decide_false, k0, k1, k2]
        exact h
theorem wrap_put {k n : Int} (h : chk k n = 0) (hk : k = 1 ∨ k = 2) : -1099511627776 ≤ n ∧ n < 1099511627776 := by
  unfold chk at h
  rcases hk with rfl | rfl
  · simp at h; omega
  · simp at h; omega
theorem Put_no (k n : Int) (hc : chk k n ≠ 0) (h : ∀ w', Fr [] w w' → K (.tuple #[.int .i64 0, .bool false]) w') : C.call Try.prog 66 #[V k n] w K := by
  refine F66.sh (C.new_of fun b w1 hn => C.loadA_all hn.at_ rfl (Check_c k n fun w2 hf2 => ?_))
  simp only [C.ite_true, C.ite_false, C.pick_true, C.pick_false, C.not_bool, C.field_ptr, C.nilCheck_ptr, C.add_mk, C.sub_mk, C.mul_mk, C.eql_mk, C.neq_mk, C.lss_mk, C.leq_mk, C.gtr_mk, C.geq_mk, C.conv_mk, C.len_mk, C.ext_0, C.ext_1, C.ext3_0, C.ext3_1, C.ext3_2, C.guarded_yes, C.guarded_tf, C.guarded_ft, C.guarded_undef, Bool.not_true, Bool.not_false, Nat.zero_add, eq_self, decide_true, decide_false, ne_eq, hc, not_false_eq_true]
  exact h w2 (hn.fr.trans hf2)
theorem Put_yes (k n : Int) (hc : chk k n = 0) (h : ∀ w', Fr [] w w' → K (.tuple #[.int .i64 (putW k n), .bool true]) w') : C.call Try.prog 66 #[V k n] w K := by
  refine F66.sh (C.new_of fun b w1 hn => C.loadA_all hn.at_ rfl (Check_c k n fun w2 hf2 => ?_))
  have hb : w2.heap[b]? = some (vB k n) := hf2.at_ hn.at_ (by simp)
  have h := h w2 (hn.fr.trans hf2)
  simp only [C.ite_true, C.ite_false, C.pick_true, C.pick_false, C.not_bool, C.field_ptr, C.nilCheck_ptr, C.add_mk, C.sub_mk, C.mul_mk, C.eql_mk, C.neq_mk, C.lss_mk, C.leq_mk, C.gtr_mk, C.geq_mk, C.conv_mk, C.len_mk, C.ext_0, C.ext_1, C.ext3_0, C.ext3_1, C.ext3_2, C.guarded_yes, C.guarded_tf, C.guarded_ft, C.guarded_undef, Bool.not_true, Bool.not_false, Nat.zero_add, eq_self, decide_true, decide_false, ne_eq, hc, not_true_eq_false]
  refine F66.k3.to ?_
  try simp only [C.ite_true, C.ite_false, C.pick_true, C.pick_false, C.not_bool, C.field_ptr, C.nilCheck_ptr, C.add_mk, C.sub_mk, C.mul_mk, C.eql_mk, C.neq_mk, C.lss_mk, C.leq_mk, C.gtr_mk, C.geq_mk, C.conv_mk, C.len_mk, C.ext_0, C.ext_1, C.ext3_0, C.ext3_1, C.ext3_2, C.guarded_yes, C.guarded_tf, C.guarded_ft, C.guarded_undef, Bool.not_true, Bool.not_false, Nat.zero_add, eq_self, decide_true, decide_false]
  refine C.load1_of (v := .int .i64 k) hb rfl ?_
  unfold putW at h
  by_cases k2 : k = 2
  · have hn := wrap_put hc (.inr k2)
    rw [if_pos k2] at h
    simp only [C.ite_true, C.ite_false, C.pick_true, C.pick_false, C.not_bool, C.field_ptr, C.nilCheck_ptr, C.add_mk, C.sub_mk, C.mul_mk, C.eql_mk, C.neq_mk, C.lss_mk, C.leq_mk, C.gtr_mk, C.geq_mk, C.conv_mk, C.len_mk, C.ext_0, C.ext_1, C.ext3_0, C.ext3_1, C.ext3_2, C.guarded_yes, C.guarded_tf, C.guarded_ft, C.guarded_undef, Bool.not_true, Bool.not_false, Nat.zero_add, eq_self, decide_true, decide_false, k2]
    refine F66.k7.to (F66.k8.to ?_)
    try simp only [C.ite_true, C.ite_false, C.pick_true, C.pick_false, C.not_bool, C.field_ptr, C.nilCheck_ptr, C.add_mk, C.sub_mk, C.mul_mk, C.eql_mk, C.neq_mk, C.lss_mk, C.leq_mk, C.gtr_mk, C.geq_mk, C.conv_mk, C.len_mk, C.ext_0, C.ext_1, C.ext3_0, C.ext3_1, C.ext3_2, C.guarded_yes, C.guarded_tf, C.guarded_ft, C.guarded_undef, Bool.not_true, Bool.not_false, Nat.zero_add, eq_self, decide_true, decide_false]
    refine C.load1_of (v := .int .i64 n) hb rfl ?_
    try simp only [C.ite_true, C.ite_false, C.pick_true, C.pick_false, C.not_bool, C.field_ptr, C.nilCheck_ptr, C.add_mk, C.sub_mk, C.mul_mk, C.eql_mk, C.neq_mk, C.lss_mk, C.leq_mk, C.gtr_mk, C.geq_mk, C.conv_mk, C.len_mk, C.ext_0, C.ext_1, C.ext3_0, C.ext3_1, C.ext3_2, C.guarded_yes, C.guarded_tf, C.guarded_ft, C.guarded_undef, Bool.not_true, Bool.not_false, Nat.zero_add, eq_self, decide_true, decide_false]
    rw [wrap64_id (n := 2 * n) (by omega), wrap64_id (n := 2 * n + 1) (by omega), wrap64_id (n := 1 + (2 * n + 1)) (by omega)]
    refine F66.k9.to ?_
    rw [show 1 + (2 * n + 1) = 2 * n + 2 by omega]
    exact h
  · rw [if_neg k2] at h
    simp only [C.ite_true, C.ite_false, C.pick_true, C.pick_false, C.not_bool, C.field_ptr, C.nilCheck_ptr, C.add_mk, C.sub_mk, C.mul_mk, C.eql_mk, C.neq_mk, C.lss_mk, C.leq_mk, C.gtr_mk, C.geq_mk, C.conv_mk, C.len_mk, C.ext_0, C.ext_1, C.ext3_0, C.ext3_1, C.ext3_2, C.guarded_yes, C.guarded_tf, C.guarded_ft, C.guarded_undef, Bool.not_true, Bool.not_false, Nat.zero_add, eq_self, decide_true, decide_false, k2]
    refine F66.k6.to ?_
    by_cases k1 : k = 1
    · have hn := wrap_put hc (.inl k1)
      rw [if_pos k1] at h
      simp only [C.ite_true, C.ite_false, C.pick_true, C.pick_false, C.not_bool, C.field_ptr, C.nilCheck_ptr, C.add_mk, C.sub_mk, C.mul_mk, C.eql_mk, C.neq_mk, C.lss_mk, C.leq_mk, C.gtr_mk, C.geq_mk, C.conv_mk, C.len_mk, C.ext_0, C.ext_1, C.ext3_0, C.ext3_1, C.ext3_2, C.guarded_yes, C.guarded_tf, C.guarded_ft, C.guarded_undef, Bool.not_true, Bool.not_false, Nat.zero_add, eq_self, decide_true, decide_false, k1]
      refine F66.k8.to ?_
      try simp only [C.ite_true, C.ite_false, C.pick_true, C.pick_false, C.not_bool, C.field_ptr, C.nilCheck_ptr, C.add_mk, C.sub_mk, C.mul_mk, C.eql_mk, C.neq_mk, C.lss_mk, C.leq_mk, C.gtr_mk, C.geq_mk, C.conv_mk, C.len_mk, C.ext_0, C.ext_1, C.ext3_0, C.ext3_1, C.ext3_2, C.guarded_yes, C.guarded_tf, C.guarded_ft, C.guarded_undef, Bool.not_true, Bool.not_false, Nat.zero_add, eq_self, decide_true, decide_false]
      refine C.load1_of (v := .int .i64 n) hb rfl ?_
      try simp only [C.ite_true, C.ite_false, C.pick_true, C.pick_false, C.not_bool, C.field_ptr, C.nilCheck_ptr, C.add_mk, C.sub_mk, C.mul_mk, C.eql_mk, C.neq_mk, C.lss_mk, C.leq_mk, C.gtr_mk, C.geq_mk, C.conv_mk, C.len_mk, C.ext_0, C.ext_1, C.ext3_0, C.ext3_1, C.ext3_2, C.guarded_yes, C.guarded_tf, C.guarded_ft, C.guarded_undef, Bool.not_true, Bool.not_false, Nat.zero_add, eq_self, decide_true, decide_false]
      rw [wrap64_id (n := 2 * n) (by omega), wrap64_id (n := 2 * n + 1) (by omega), wrap64_id (n := 0 + (2 * n + 1)) (by omega)]
      refine F66.k9.to ?_
      rw [show 0 + (2 * n + 1) = 2 * n + 1 by omega]
      exact h
    · rw [if_neg k1] at h
      simp only [C.ite_true, C.ite_false, C.pick_true, C.pick_false, C.not_bool, C.field_ptr, C.nilCheck_ptr, C.add_mk, C.sub_mk, C.mul_mk, C.eql_mk, C.neq_mk, C.lss_mk, C.leq_mk, C.gtr_mk, C.geq_mk, C.conv_mk, C.len_mk, C.ext_0, C.ext_1, C.ext3_0, C.ext3_1, C.ext3_2, C.guarded_yes, C.guarded_tf, C.guarded_ft, C.guarded_undef, Bool.not_true, Bool.not_false, Nat.zero_add, eq_self, decide_true, decide_false, k1]
      exact F66.k9.to h
/-- What Read's last part does with the value that it has made. -/
theorem Read_tail {b r : Nat} {k n : Int} (hb : w.heap[b]? = some (vB k n)) (hr : w.heap[r]? = some (vB 0 0))
    (h1 : chk k n = 0 → ∀ w', Fr [r] w w' → K (.tuple #[V k n, .bool true]) w') (h2 : chk k n ≠ 0 → ∀ w', Fr [r] w w' → K (.tuple #[V 0 0, .bool false]) w') :
    F71.k6 K (.pointer (some ⟨r, 0, none⟩)) (.pointer (some ⟨b, 0, none⟩)) w := by
  refine F71.k6.to (C.loadA_all hb rfl (Check_c k n fun w1 hf1 => ?_))
  have hr1 := hf1.at_ hr (by simp)
  by_cases hc : chk k n = 0
  · simp only [C.ite_true, C.ite_false, C.pick_true, C.pick_false, C.not_bool, C.field_ptr, C.nilCheck_ptr, C.add_mk, C.sub_mk, C.mul_mk, C.eql_mk, C.neq_mk, C.lss_mk, C.leq_mk, C.gtr_mk, C.geq_mk, C.conv_mk, C.len_mk, C.ext_0, C.ext_1, C.ext3_0, C.ext3_1, C.ext3_2, C.guarded_yes, C.guarded_tf, C.guarded_ft, C.guarded_undef, Bool.not_true, Bool.not_false, Nat.zero_add, eq_self, decide_true, decide_false, ne_eq, hc, not_true_eq_false]
    refine F71.k8.to (C.loadA_all (hf1.at_ hb (by simp)) rfl (C.store_all hr1 rfl v2_cells rfl fun w2 hu => C.loadA_all hu.at_ rfl ?_))
    exact h1 hc w2 (hf1.w.trans hu.fr)
  · simp only [C.ite_true, C.ite_false, C.pick_true, C.pick_false, C.not_bool, C.field_ptr, C.nilCheck_ptr, C.add_mk, C.sub_mk, C.mul_mk, C.eql_mk, C.neq_mk, C.lss_mk, C.leq_mk, C.gtr_mk, C.geq_mk, C.conv_mk, C.len_mk, C.ext_0, C.ext_1, C.ext3_0, C.ext3_1, C.ext3_2, C.guarded_yes, C.guarded_tf, C.guarded_ft, C.guarded_undef, Bool.not_true, Bool.not_false, Nat.zero_add, eq_self, decide_true, decide_false, ne_eq, hc, not_false_eq_true]
    refine C.run_of buildV_0 (C.store_all hr1 rfl v2_cells rfl fun w2 hu => C.loadA_all hu.at_ rfl ?_)
    exact h2 hc w2 (hf1.w.trans hu.fr)
theorem Read_c (a : Int) (ha : -9223372036854775808 ≤ a ∧ a ≤ 9223372036854775807) (h1 : chk (rdK a) (rdN a) = 0 → ∀ w', Fr [] w w' → K (.tuple #[V (rdK a) (rdN a), .bool true]) w') (h2 : chk (rdK a) (rdN a) ≠ 0 → ∀ w', Fr [] w w' → K (.tuple #[V 0 0, .bool false]) w') :
    C.call Try.prog 71 #[.int .i64 a] w K := by
  refine F71.sh (C.new_of fun r w1 hn1 => C.new_of fun b w2 hn2 => ⟨_, and1_run _ _ _, ?_⟩)
  have hr : w2.heap[r]? = some (vB 0 0) := hn2.fr.at_ hn1.at_ (by simp)
  have hb : w2.heap[b]? = some (vB 0 0) := hn2.at_
  have hrb : r ≠ b := hn2.ne (lt_of_at hn1.at_)
  have lr : w.heap.size ≤ r := by have := hn1.is; omega
  have lb : w.heap.size ≤ b := by have := hn2.is; have := hn1.fr.size; omega
  have hf : Fr [] w w2 := hn1.fr.trans hn2.fr
  unfold rdK rdN at h1 h2
  by_cases o : a % 2 = 1
  · simp only [if_pos o] at h1 h2
    simp only [C.ite_true, C.ite_false, C.pick_true, C.pick_false, C.not_bool, C.field_ptr, C.nilCheck_ptr, C.add_mk, C.sub_mk, C.mul_mk, C.eql_mk, C.neq_mk, C.lss_mk, C.leq_mk, C.gtr_mk, C.geq_mk, C.conv_mk, C.len_mk, C.ext_0, C.ext_1, C.ext3_0, C.ext3_1, C.ext3_2, C.guarded_yes, C.guarded_tf, C.guarded_ft, C.guarded_undef, Bool.not_true, Bool.not_false, Nat.zero_add, eq_self, decide_true, decide_false, o]
    refine ⟨_, shr1_run _ _ _, C.run_of (buildV _ _) (C.store_all hb rfl v2_cells rfl fun w3 hu => ?_)⟩
    have hf3 : Fr [] w w3 := hf.then hu.fr (by simp; omega)
    exact Read_tail hu.at_ (hu.fr.at_ hr (by simp; omega)) (fun hc w' hf' => h1 hc w' (hf3.then hf' (by simp; omega))) (fun hc w' hf' => h2 hc w' (hf3.then hf' (by simp; omega)))
  · simp only [if_neg o] at h1 h2
    simp only [C.ite_true, C.ite_false, C.pick_true, C.pick_false, C.not_bool, C.field_ptr, C.nilCheck_ptr, C.add_mk, C.sub_mk, C.mul_mk, C.eql_mk, C.neq_mk, C.lss_mk, C.leq_mk, C.gtr_mk, C.geq_mk, C.conv_mk, C.len_mk, C.ext_0, C.ext_1, C.ext3_0, C.ext3_1, C.ext3_2, C.guarded_yes, C.guarded_tf, C.guarded_ft, C.guarded_undef, Bool.not_true, Bool.not_false, Nat.zero_add, eq_self, decide_true, decide_false, o]
    by_cases z : a = 0
    · simp only [if_pos z] at h1 h2
      simp only [z, ne_eq, not_true_eq_false, C.ite_true, C.ite_false, C.pick_true, C.pick_false, C.not_bool, C.field_ptr, C.nilCheck_ptr, C.add_mk, C.sub_mk, C.mul_mk, C.eql_mk, C.neq_mk, C.lss_mk, C.leq_mk, C.gtr_mk, C.geq_mk, C.conv_mk, C.len_mk, C.ext_0, C.ext_1, C.ext3_0, C.ext3_1, C.ext3_2, C.guarded_yes, C.guarded_tf, C.guarded_ft, C.guarded_undef, Bool.not_true, Bool.not_false, Nat.zero_add, eq_self, decide_true, decide_false]
      exact Read_tail hb hr (fun hc w' hf' => h1 hc w' (hf.then hf' (by simp; omega))) (fun hc w' hf' => h2 hc w' (hf.then hf' (by simp; omega)))
    · simp only [if_neg z] at h1 h2
      simp only [z, ne_eq, not_false_eq_true, C.ite_true, C.ite_false, C.pick_true, C.pick_false, C.not_bool, C.field_ptr, C.nilCheck_ptr, C.add_mk, C.sub_mk, C.mul_mk, C.eql_mk, C.neq_mk, C.lss_mk, C.leq_mk, C.gtr_mk, C.geq_mk, C.conv_mk, C.len_mk, C.ext_0, C.ext_1, C.ext3_0, C.ext3_1, C.ext3_2, C.guarded_yes, C.guarded_tf, C.guarded_ft, C.guarded_undef, Bool.not_true, Bool.not_false, Nat.zero_add, eq_self, decide_true, decide_false]
      have e2 := tdiv2 a (by omega)
      refine ⟨_, quo_run _ _ _ _ (by decide), ?_⟩
      rw [wrap64_id (n := a.tdiv 2) (by omega)]
      try simp only [C.ite_true, C.ite_false, C.pick_true, C.pick_false, C.not_bool, C.field_ptr, C.nilCheck_ptr, C.add_mk, C.sub_mk, C.mul_mk, C.eql_mk, C.neq_mk, C.lss_mk, C.leq_mk, C.gtr_mk, C.geq_mk, C.conv_mk, C.len_mk, C.ext_0, C.ext_1, C.ext3_0, C.ext3_1, C.ext3_2, C.guarded_yes, C.guarded_tf, C.guarded_ft, C.guarded_undef, Bool.not_true, Bool.not_false, Nat.zero_add, eq_self, decide_true, decide_false]
      rw [wrap64_id (n := a.tdiv 2 - 1) (by omega)]
      refine C.run_of (buildV _ _) (C.store_all hb rfl v2_cells rfl fun w3 hu => ?_)
      have hf3 : Fr [] w w3 := hf.then hu.fr (by simp; omega)
      exact Read_tail hu.at_ (hu.fr.at_ hr (by simp; omega)) (fun hc w' hf' => h1 hc w' (hf3.then hf' (by simp; omega))) (fun hc w' hf' => h2 hc w' (hf3.then hf' (by simp; omega)))
theorem Address_c (a : Int) (ha : -9223372036854775808 ≤ a ∧ a ≤ 9223372036854775807) (h1 : chk (rdK a) (rdN a) = 0 ∧ rdK a = 2 → ∀ w', Fr [] w w' → K (.tuple #[.int .i64 (rdN a), .bool true]) w') (h2 : ¬ (chk (rdK a) (rdN a) = 0 ∧ rdK a = 2) → ∀ w', Fr [] w w' → K (.tuple #[.int .i64 0, .bool false]) w') :
    C.call Try.prog 63 #[.int .i64 a] w K := by
  refine F63.sh (Read_c a ha (fun hc w1 hf1 => ?_) (fun hc w1 hf1 => ?_))
  · simp only [C.ite_true, C.ite_false, C.pick_true, C.pick_false, C.not_bool, C.field_ptr, C.nilCheck_ptr, C.add_mk, C.sub_mk, C.mul_mk, C.eql_mk, C.neq_mk, C.lss_mk, C.leq_mk, C.gtr_mk, C.geq_mk, C.conv_mk, C.len_mk, C.ext_0, C.ext_1, C.ext3_0, C.ext3_1, C.ext3_2, C.guarded_yes, C.guarded_tf, C.guarded_ft, C.guarded_undef, Bool.not_true, Bool.not_false, Nat.zero_add, eq_self, decide_true, decide_false]
    refine C.new_of fun b w2 hn => C.store_all hn.at_ rfl v2_cells rfl fun w3 hu => ?_
    have hb : w3.heap[b]? = some (vB (rdK a) (rdN a)) := hu.at_
    have lb : w.heap.size ≤ b := by have := hn.is; have := hf1.size; omega
    have hf : Fr [] w w3 := (hf1.trans hn.fr).then hu.fr (by simp; omega)
    try simp only [C.ite_true, C.ite_false, C.pick_true, C.pick_false, C.not_bool, C.field_ptr, C.nilCheck_ptr, C.add_mk, C.sub_mk, C.mul_mk, C.eql_mk, C.neq_mk, C.lss_mk, C.leq_mk, C.gtr_mk, C.geq_mk, C.conv_mk, C.len_mk, C.ext_0, C.ext_1, C.ext3_0, C.ext3_1, C.ext3_2, C.guarded_yes, C.guarded_tf, C.guarded_ft, C.guarded_undef, Bool.not_true, Bool.not_false, Nat.zero_add, eq_self, decide_true, decide_false]
    refine C.load1_of (v := .int .i64 (rdK a)) hb rfl ?_
    by_cases k2 : rdK a = 2
    · simp only [C.ite_true, C.ite_false, C.pick_true, C.pick_false, C.not_bool, C.field_ptr, C.nilCheck_ptr, C.add_mk, C.sub_mk, C.mul_mk, C.eql_mk, C.neq_mk, C.lss_mk, C.leq_mk, C.gtr_mk, C.geq_mk, C.conv_mk, C.len_mk, C.ext_0, C.ext_1, C.ext3_0, C.ext3_1, C.ext3_2, C.guarded_yes, C.guarded_tf, C.guarded_ft, C.guarded_undef, Bool.not_true, Bool.not_false, Nat.zero_add, eq_self, decide_true, decide_false, ne_eq, k2, not_true_eq_false]
      refine F63.k4.to ?_
      try simp only [C.ite_true, C.ite_false, C.pick_true, C.pick_false, C.not_bool, C.field_ptr, C.nilCheck_ptr, C.add_mk, C.sub_mk, C.mul_mk, C.eql_mk, C.neq_mk, C.lss_mk, C.leq_mk, C.gtr_mk, C.geq_mk, C.conv_mk, C.len_mk, C.ext_0, C.ext_1, C.ext3_0, C.ext3_1, C.ext3_2, C.guarded_yes, C.guarded_tf, C.guarded_ft, C.guarded_undef, Bool.not_true, Bool.not_false, Nat.zero_add, eq_self, decide_true, decide_false]
      refine C.load1_of (v := .int .i64 (rdN a)) hb rfl ?_
      exact h1 ⟨hc, k2⟩ w3 hf
    · simp only [C.ite_true, C.ite_false, C.pick_true, C.pick_false, C.not_bool, C.field_ptr, C.nilCheck_ptr, C.add_mk, C.sub_mk, C.mul_mk, C.eql_mk, C.neq_mk, C.lss_mk, C.leq_mk, C.gtr_mk, C.geq_mk, C.conv_mk, C.len_mk, C.ext_0, C.ext_1, C.ext3_0, C.ext3_1, C.ext3_2, C.guarded_yes, C.guarded_tf, C.guarded_ft, C.guarded_undef, Bool.not_true, Bool.not_false, Nat.zero_add, eq_self, decide_true, decide_false, ne_eq, k2, not_false_eq_true]
      exact h2 (fun h => k2 h.2) w3 hf
  · simp only [C.ite_true, C.ite_false, C.pick_true, C.pick_false, C.not_bool, C.field_ptr, C.nilCheck_ptr, C.add_mk, C.sub_mk, C.mul_mk, C.eql_mk, C.neq_mk, C.lss_mk, C.leq_mk, C.gtr_mk, C.geq_mk, C.conv_mk, C.len_mk, C.ext_0, C.ext_1, C.ext3_0, C.ext3_1, C.ext3_2, C.guarded_yes, C.guarded_tf, C.guarded_ft, C.guarded_undef, Bool.not_true, Bool.not_false, Nat.zero_add, eq_self, decide_true, decide_false]
    refine C.new_of fun b w2 hn => C.store_all hn.at_ rfl v2_cells rfl fun w3 hu => ?_
    have lb : w.heap.size ≤ b := by have := hn.is; have := hf1.size; omega
    have hf : Fr [] w w3 := (hf1.trans hn.fr).then hu.fr (by simp; omega)
    try simp only [C.ite_true, C.ite_false, C.pick_true, C.pick_false, C.not_bool, C.field_ptr, C.nilCheck_ptr, C.add_mk, C.sub_mk, C.mul_mk, C.eql_mk, C.neq_mk, C.lss_mk, C.leq_mk, C.gtr_mk, C.geq_mk, C.conv_mk, C.len_mk, C.ext_0, C.ext_1, C.ext3_0, C.ext3_1, C.ext3_2, C.guarded_yes, C.guarded_tf, C.guarded_ft, C.guarded_undef, Bool.not_true, Bool.not_false, Nat.zero_add, eq_self, decide_true, decide_false]
    exact h2 (fun h => hc h.1) w3 hf
theorem chk_kind {k n : Int} (h : chk k n = 0) : (k = 0 ∧ n = 0) ∨ (k = 1 ∧ -1099511627776 ≤ n ∧ n < 1099511627776) ∨ (k = 2 ∧ 0 ≤ n ∧ n < 2048) := by
  unfold chk at h
  split at h
  · split at h <;> omega
  · split at h
    · split at h <;> omega
    · split at h
      · split at h <;> omega
      · omega
theorem RefPut_c (k n : Int) (hc : chk k n = 0) (h : ∀ w', Fr [] w w' → K (.int .i64 (putW k n)) w') : C.call Try.prog 61 #[V k n] w K := by
  refine F61.sh (C.new_of fun b w1 hn => ?_)
  have hb : w1.heap[b]? = some (vB k n) := hn.at_
  have h := h w1 hn.fr
  unfold putW at h
  rcases chk_kind hc with ⟨rfl, rfl⟩ | ⟨rfl, h1, h2⟩ | ⟨rfl, h1, h2⟩
  · repeat (first | refine C.load1_of (v := .int .i64 0) hb rfl ?_ | simp only [C.ite_true, C.ite_false, C.pick_true, C.pick_false, C.not_bool, C.field_ptr, C.nilCheck_ptr, C.add_mk, C.sub_mk, C.mul_mk, C.eql_mk, C.neq_mk, C.lss_mk, C.leq_mk, C.gtr_mk, C.geq_mk, C.conv_mk, C.len_mk, C.ext_0, C.ext_1, C.ext3_0, C.ext3_1, C.ext3_2, C.guarded_yes, C.guarded_tf, C.guarded_ft, C.guarded_undef, Bool.not_true, Bool.not_false, Nat.zero_add, eq_self, decide_true, decide_false])
    exact h
  · repeat (first | refine C.load1_of (v := .int .i64 1) hb rfl ?_ | simp only [C.ite_true, C.ite_false, C.pick_true, C.pick_false, C.not_bool, C.field_ptr, C.nilCheck_ptr, C.add_mk, C.sub_mk, C.mul_mk, C.eql_mk, C.neq_mk, C.lss_mk, C.leq_mk, C.gtr_mk, C.geq_mk, C.conv_mk, C.len_mk, C.ext_0, C.ext_1, C.ext3_0, C.ext3_1, C.ext3_2, C.guarded_yes, C.guarded_tf, C.guarded_ft, C.guarded_undef, Bool.not_true, Bool.not_false, Nat.zero_add, eq_self, decide_true, decide_false, show ¬ (1 : Int) = 0 by decide])
    refine F61.k3.to ?_
    repeat (first | refine C.load1_of (v := .int .i64 1) hb rfl ?_ | refine C.load1_of (v := .int .i64 n) hb rfl ?_ | simp only [C.ite_true, C.ite_false, C.pick_true, C.pick_false, C.not_bool, C.field_ptr, C.nilCheck_ptr, C.add_mk, C.sub_mk, C.mul_mk, C.eql_mk, C.neq_mk, C.lss_mk, C.leq_mk, C.gtr_mk, C.geq_mk, C.conv_mk, C.len_mk, C.ext_0, C.ext_1, C.ext3_0, C.ext3_1, C.ext3_2, C.guarded_yes, C.guarded_tf, C.guarded_ft, C.guarded_undef, Bool.not_true, Bool.not_false, Nat.zero_add, eq_self, decide_true, decide_false])
    rw [wrap64_id (n := 2 * n) (by omega), wrap64_id (n := 2 * n + 1) (by omega)]
    exact h
  · repeat (first | refine C.load1_of (v := .int .i64 2) hb rfl ?_ | simp only [C.ite_true, C.ite_false, C.pick_true, C.pick_false, C.not_bool, C.field_ptr, C.nilCheck_ptr, C.add_mk, C.sub_mk, C.mul_mk, C.eql_mk, C.neq_mk, C.lss_mk, C.leq_mk, C.gtr_mk, C.geq_mk, C.conv_mk, C.len_mk, C.ext_0, C.ext_1, C.ext3_0, C.ext3_1, C.ext3_2, C.guarded_yes, C.guarded_tf, C.guarded_ft, C.guarded_undef, Bool.not_true, Bool.not_false, Nat.zero_add, eq_self, decide_true, decide_false, show ¬ (2 : Int) = 0 by decide])
    refine F61.k3.to ?_
    repeat (first | refine C.load1_of (v := .int .i64 2) hb rfl ?_ | refine C.load1_of (v := .int .i64 n) hb rfl ?_ | simp only [C.ite_true, C.ite_false, C.pick_true, C.pick_false, C.not_bool, C.field_ptr, C.nilCheck_ptr, C.add_mk, C.sub_mk, C.mul_mk, C.eql_mk, C.neq_mk, C.lss_mk, C.leq_mk, C.gtr_mk, C.geq_mk, C.conv_mk, C.len_mk, C.ext_0, C.ext_1, C.ext3_0, C.ext3_1, C.ext3_2, C.guarded_yes, C.guarded_tf, C.guarded_ft, C.guarded_undef, Bool.not_true, Bool.not_false, Nat.zero_add, eq_self, decide_true, decide_false])
    rw [wrap64_id (n := 2 * n) (by omega), wrap64_id (n := 2 * n + 2) (by omega)]
    exact h
theorem RefRead_c (a : Int) (ha : -9223372036854775808 ≤ a ∧ a ≤ 9223372036854775807) (h1 : chk (rdK a) (rdN a) = 0 → ∀ w', Fr [] w w' → K (.tuple #[V (rdK a) (rdN a), .bool true]) w') (h2 : chk (rdK a) (rdN a) ≠ 0 → ∀ w', Fr [] w w' → K (.tuple #[V 0 0, .bool false]) w') :
    C.call Try.prog 36 #[.int .i64 a] w K := by
  refine F36.sh (C.new_of fun r w1 hn => ?_)
  have hr : w1.heap[r]? = some (vB 0 0) := hn.at_
  have lr : w.heap.size ≤ r := by have := hn.is; omega
  have fin : ∀ (k n : Int) (b : Bool), (∀ w', Fr [] w w' → K (.tuple #[V k n, .bool b]) w') → C.store 2 (.pointer (some ⟨r, 0, none⟩)) (V k n) w1 fun w' => C.loadA 2 (.pointer (some ⟨r, 0, none⟩)) w' fun r5 _ => K (.tuple #[r5, .bool b]) w' := by
    intro k n b hk
    exact C.store_all hr rfl v2_cells rfl fun w2 hu => C.loadA_all hu.at_ rfl (hk w2 (hn.fr.then hu.fr (by simp; omega)))
  unfold rdK rdN at h1 h2
  by_cases z : a = 0
  · subst z
    simp only [C.ite_true, C.ite_false, C.pick_true, C.pick_false, C.not_bool, C.field_ptr, C.nilCheck_ptr, C.add_mk, C.sub_mk, C.mul_mk, C.eql_mk, C.neq_mk, C.lss_mk, C.leq_mk, C.gtr_mk, C.geq_mk, C.conv_mk, C.len_mk, C.ext_0, C.ext_1, C.ext3_0, C.ext3_1, C.ext3_2, C.guarded_yes, C.guarded_tf, C.guarded_ft, C.guarded_undef, Bool.not_true, Bool.not_false, Nat.zero_add, eq_self, decide_true, decide_false]
    exact C.run_of buildV_0 (fin 0 0 true (h1 (by decide)))
  · simp only [C.ite_true, C.ite_false, C.pick_true, C.pick_false, C.not_bool, C.field_ptr, C.nilCheck_ptr, C.add_mk, C.sub_mk, C.mul_mk, C.eql_mk, C.neq_mk, C.lss_mk, C.leq_mk, C.gtr_mk, C.geq_mk, C.conv_mk, C.len_mk, C.ext_0, C.ext_1, C.ext3_0, C.ext3_1, C.ext3_2, C.guarded_yes, C.guarded_tf, C.guarded_ft, C.guarded_undef, Bool.not_true, Bool.not_false, Nat.zero_add, eq_self, decide_true, decide_false, z]
    refine F36.k3.to ⟨_, rem_run _ _ _ _ (by decide), ?_⟩
    by_cases e : a % 2 = 0
    · have e2 := tdiv2 a e
      have e3 : a.tmod 2 = 0 := by rw [Int.tmod_def]; omega
      have o : ¬ a % 2 = 1 := by omega
      simp only [if_neg o, if_neg z] at h1 h2
      rw [e2] at h1 h2
      simp only [C.ite_true, C.ite_false, C.pick_true, C.pick_false, C.not_bool, C.field_ptr, C.nilCheck_ptr, C.add_mk, C.sub_mk, C.mul_mk, C.eql_mk, C.neq_mk, C.lss_mk, C.leq_mk, C.gtr_mk, C.geq_mk, C.conv_mk, C.len_mk, C.ext_0, C.ext_1, C.ext3_0, C.ext3_1, C.ext3_2, C.guarded_yes, C.guarded_tf, C.guarded_ft, C.guarded_undef, Bool.not_true, Bool.not_false, Nat.zero_add, eq_self, decide_true, decide_false, e3]
      have hchk : chk 2 (a / 2 - 1) = (if 0 ≤ a / 2 - 1 ∧ a / 2 - 1 < 2048 then 0 else 4) := by unfold chk; rw [if_neg (by decide), if_neg (by decide), if_pos rfl]
      by_cases l1 : a < 2
      · simp only [C.ite_true, C.ite_false, C.pick_true, C.pick_false, C.not_bool, C.field_ptr, C.nilCheck_ptr, C.add_mk, C.sub_mk, C.mul_mk, C.eql_mk, C.neq_mk, C.lss_mk, C.leq_mk, C.gtr_mk, C.geq_mk, C.conv_mk, C.len_mk, C.ext_0, C.ext_1, C.ext3_0, C.ext3_1, C.ext3_2, C.guarded_yes, C.guarded_tf, C.guarded_ft, C.guarded_undef, Bool.not_true, Bool.not_false, Nat.zero_add, eq_self, decide_true, decide_false, l1]
        exact C.run_of buildV_0 (fin 0 0 false (h2 (by rw [hchk, if_neg (by omega)]; decide)))
      · by_cases l2 : a > 4096
        · simp only [C.ite_true, C.ite_false, C.pick_true, C.pick_false, C.not_bool, C.field_ptr, C.nilCheck_ptr, C.add_mk, C.sub_mk, C.mul_mk, C.eql_mk, C.neq_mk, C.lss_mk, C.leq_mk, C.gtr_mk, C.geq_mk, C.conv_mk, C.len_mk, C.ext_0, C.ext_1, C.ext3_0, C.ext3_1, C.ext3_2, C.guarded_yes, C.guarded_tf, C.guarded_ft, C.guarded_undef, Bool.not_true, Bool.not_false, Nat.zero_add, eq_self, decide_true, decide_false, l1, l2]
          exact C.run_of buildV_0 (fin 0 0 false (h2 (by rw [hchk, if_neg (by omega)]; decide)))
        · simp only [C.ite_true, C.ite_false, C.pick_true, C.pick_false, C.not_bool, C.field_ptr, C.nilCheck_ptr, C.add_mk, C.sub_mk, C.mul_mk, C.eql_mk, C.neq_mk, C.lss_mk, C.leq_mk, C.gtr_mk, C.geq_mk, C.conv_mk, C.len_mk, C.ext_0, C.ext_1, C.ext3_0, C.ext3_1, C.ext3_2, C.guarded_yes, C.guarded_tf, C.guarded_ft, C.guarded_undef, Bool.not_true, Bool.not_false, Nat.zero_add, eq_self, decide_true, decide_false, l1, l2]
          refine F36.k6.to ?_
          simp only [C.ite_true, C.ite_false, C.pick_true, C.pick_false, C.not_bool, C.field_ptr, C.nilCheck_ptr, C.add_mk, C.sub_mk, C.mul_mk, C.eql_mk, C.neq_mk, C.lss_mk, C.leq_mk, C.gtr_mk, C.geq_mk, C.conv_mk, C.len_mk, C.ext_0, C.ext_1, C.ext3_0, C.ext3_1, C.ext3_2, C.guarded_yes, C.guarded_tf, C.guarded_ft, C.guarded_undef, Bool.not_true, Bool.not_false, Nat.zero_add, eq_self, decide_true, decide_false]
          rw [wrap64_id (n := a - 2) (by omega)]
          have e4 := tdiv2 (a - 2) (by omega)
          refine ⟨_, quo_run _ _ _ _ (by decide), C.run_of (buildV _ _) ?_⟩
          rw [wrap64_id (n := (a - 2).tdiv 2) (by omega), e4, show (a - 2) / 2 = a / 2 - 1 by omega]
          exact fin _ _ true (h1 (by rw [hchk, if_pos (by omega)]))
    · have o : a % 2 = 1 := by omega
      have e3 : ¬ a.tmod 2 = 0 := by
        intro h0
        have := Int.tmod_add_mul_tdiv a 2
        omega
      simp only [if_pos o] at h1 h2
      simp only [C.ite_true, C.ite_false, C.pick_true, C.pick_false, C.not_bool, C.field_ptr, C.nilCheck_ptr, C.add_mk, C.sub_mk, C.mul_mk, C.eql_mk, C.neq_mk, C.lss_mk, C.leq_mk, C.gtr_mk, C.geq_mk, C.conv_mk, C.len_mk, C.ext_0, C.ext_1, C.ext3_0, C.ext3_1, C.ext3_2, C.guarded_yes, C.guarded_tf, C.guarded_ft, C.guarded_undef, Bool.not_true, Bool.not_false, Nat.zero_add, eq_self, decide_true, decide_false, e3]
      refine F36.k7.to ?_
      have hchk : chk 1 (a / 2) = (if -1099511627776 ≤ a / 2 ∧ a / 2 < 1099511627776 then 0 else 4) := by unfold chk; rw [if_neg (by decide), if_pos rfl]
      by_cases l1 : a < -2199023255551
      · simp only [C.ite_true, C.ite_false, C.pick_true, C.pick_false, C.not_bool, C.field_ptr, C.nilCheck_ptr, C.add_mk, C.sub_mk, C.mul_mk, C.eql_mk, C.neq_mk, C.lss_mk, C.leq_mk, C.gtr_mk, C.geq_mk, C.conv_mk, C.len_mk, C.ext_0, C.ext_1, C.ext3_0, C.ext3_1, C.ext3_2, C.guarded_yes, C.guarded_tf, C.guarded_ft, C.guarded_undef, Bool.not_true, Bool.not_false, Nat.zero_add, eq_self, decide_true, decide_false, l1]
        exact C.run_of buildV_0 (fin 0 0 false (h2 (by rw [hchk, if_neg (by omega)]; decide)))
      · by_cases l2 : a > 2199023255551
        · simp only [C.ite_true, C.ite_false, C.pick_true, C.pick_false, C.not_bool, C.field_ptr, C.nilCheck_ptr, C.add_mk, C.sub_mk, C.mul_mk, C.eql_mk, C.neq_mk, C.lss_mk, C.leq_mk, C.gtr_mk, C.geq_mk, C.conv_mk, C.len_mk, C.ext_0, C.ext_1, C.ext3_0, C.ext3_1, C.ext3_2, C.guarded_yes, C.guarded_tf, C.guarded_ft, C.guarded_undef, Bool.not_true, Bool.not_false, Nat.zero_add, eq_self, decide_true, decide_false, l1, l2]
          exact C.run_of buildV_0 (fin 0 0 false (h2 (by rw [hchk, if_neg (by omega)]; decide)))
        · simp only [C.ite_true, C.ite_false, C.pick_true, C.pick_false, C.not_bool, C.field_ptr, C.nilCheck_ptr, C.add_mk, C.sub_mk, C.mul_mk, C.eql_mk, C.neq_mk, C.lss_mk, C.leq_mk, C.gtr_mk, C.geq_mk, C.conv_mk, C.len_mk, C.ext_0, C.ext_1, C.ext3_0, C.ext3_1, C.ext3_2, C.guarded_yes, C.guarded_tf, C.guarded_ft, C.guarded_undef, Bool.not_true, Bool.not_false, Nat.zero_add, eq_self, decide_true, decide_false, l1, l2]
          refine F36.k9.to ?_
          simp only [C.ite_true, C.ite_false, C.pick_true, C.pick_false, C.not_bool, C.field_ptr, C.nilCheck_ptr, C.add_mk, C.sub_mk, C.mul_mk, C.eql_mk, C.neq_mk, C.lss_mk, C.leq_mk, C.gtr_mk, C.geq_mk, C.conv_mk, C.len_mk, C.ext_0, C.ext_1, C.ext3_0, C.ext3_1, C.ext3_2, C.guarded_yes, C.guarded_tf, C.guarded_ft, C.guarded_undef, Bool.not_true, Bool.not_false, Nat.zero_add, eq_self, decide_true, decide_false]
          rw [wrap64_id (n := a - 1) (by omega)]
          have e4 := tdiv2 (a - 1) (by omega)
          refine ⟨_, quo_run _ _ _ _ (by decide), C.run_of (buildV _ _) ?_⟩
          rw [wrap64_id (n := (a - 1).tdiv 2) (by omega), e4, show (a - 1) / 2 = a / 2 by omega]
          exact fin _ _ true (h1 (by rw [hchk, if_pos (by omega)]))
end
end Go.Proofs.YtfjilngljnlkjaaV
