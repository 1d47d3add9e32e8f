/- WordPuts: whether any value may be, and its word, is as the page says. WordReads: the value whose word any number is, and the address, are as the page says. WordBack: values come back from their words, words from their values, and no two values have one word. For all values and words, no condition. -/
import Derived.Test.YtckageghbhkklaaWord1
namespace Go.Proofs.YtckageghbhkklaaV
open Go Go.Proofs
set_option linter.unusedVariables false
set_option linter.unusedSimpArgs false
section
variable {K : VK} {w : World}
theorem RefCheck_c (k n : Int) (h : ∀ w', Fr [] w w' → K (.int .i64 (chk k n)) w') : C.call Try.prog 27 #[V k n] w K := by
  refine F27.sh (C.new_of fun b w1 hn => ?_)
  have hb : w1.heap[b]? = some (vB k n) := hn.at_
  have h := h w1 hn.fr
  simp only [C.ite_true, C.ite_false, C.pick_true, C.pick_false, C.not_bool, C.field_ptr, C.nilCheck_ptr, C.add_mk, C.sub_mk, C.mul_mk, C.eql_mk, C.neq_mk, C.lss_mk, C.leq_mk, C.gtr_mk, C.geq_mk, C.conv_mk, C.len_mk, C.ext_0, C.ext_1, C.ext3_0, C.ext3_1, C.ext3_2, C.guarded_yes, C.guarded_tf, C.guarded_ft, C.guarded_undef, Bool.not_true, Bool.not_false, Nat.zero_add, eq_self, decide_true, decide_false]
  by_cases k0 : k < 0
  · have e : chk k n = 12 := by unfold chk; rw [if_neg (by omega), if_neg (by omega), if_neg (by omega)]
    rw [e] at h
    repeat (first | refine C.load1_of (v := .int .i64 k) hb rfl ?_ | simp only [C.ite_true, C.ite_false, C.pick_true, C.pick_false, C.not_bool, C.field_ptr, C.nilCheck_ptr, C.add_mk, C.sub_mk, C.mul_mk, C.eql_mk, C.neq_mk, C.lss_mk, C.leq_mk, C.gtr_mk, C.geq_mk, C.conv_mk, C.len_mk, C.ext_0, C.ext_1, C.ext3_0, C.ext3_1, C.ext3_2, C.guarded_yes, C.guarded_tf, C.guarded_ft, C.guarded_undef, Bool.not_true, Bool.not_false, Nat.zero_add, eq_self, decide_true, decide_false, k0])
    exact h
  · by_cases k3 : k > 2
    · have e : chk k n = 12 := by unfold chk; rw [if_neg (by omega), if_neg (by omega), if_neg (by omega)]
      rw [e] at h
      repeat (first | refine C.load1_of (v := .int .i64 k) hb rfl ?_ | simp only [C.ite_true, C.ite_false, C.pick_true, C.pick_false, C.not_bool, C.field_ptr, C.nilCheck_ptr, C.add_mk, C.sub_mk, C.mul_mk, C.eql_mk, C.neq_mk, C.lss_mk, C.leq_mk, C.gtr_mk, C.geq_mk, C.conv_mk, C.len_mk, C.ext_0, C.ext_1, C.ext3_0, C.ext3_1, C.ext3_2, C.guarded_yes, C.guarded_tf, C.guarded_ft, C.guarded_undef, Bool.not_true, Bool.not_false, Nat.zero_add, eq_self, decide_true, decide_false, k0, k3])
      exact h
    · repeat (first | refine C.load1_of (v := .int .i64 k) hb rfl ?_ | simp only [C.ite_true, C.ite_false, C.pick_true, C.pick_false, C.not_bool, C.field_ptr, C.nilCheck_ptr, C.add_mk, C.sub_mk, C.mul_mk, C.eql_mk, C.neq_mk, C.lss_mk, C.leq_mk, C.gtr_mk, C.geq_mk, C.conv_mk, C.len_mk, C.ext_0, C.ext_1, C.ext3_0, C.ext3_1, C.ext3_2, C.guarded_yes, C.guarded_tf, C.guarded_ft, C.guarded_undef, Bool.not_true, Bool.not_false, Nat.zero_add, eq_self, decide_true, decide_false, k0, k3])
      refine F27.k3.to ?_
      unfold chk at h
      have hk : k = 0 ∨ k = 1 ∨ k = 2 := by omega
      rcases hk with rfl | rfl | rfl
      · by_cases n0 : n = 0
        · rw [if_pos rfl, if_pos n0] at h
          repeat (first | refine C.load1_of (v := .int .i64 0) hb rfl ?_ | refine C.load1_of (v := .int .i64 n) hb rfl ?_ | simp only [C.ite_true, C.ite_false, C.pick_true, C.pick_false, C.not_bool, C.field_ptr, C.nilCheck_ptr, C.add_mk, C.sub_mk, C.mul_mk, C.eql_mk, C.neq_mk, C.lss_mk, C.leq_mk, C.gtr_mk, C.geq_mk, C.conv_mk, C.len_mk, C.ext_0, C.ext_1, C.ext3_0, C.ext3_1, C.ext3_2, C.guarded_yes, C.guarded_tf, C.guarded_ft, C.guarded_undef, Bool.not_true, Bool.not_false, Nat.zero_add, eq_self, decide_true, decide_false, n0, ne_eq, not_true_eq_false, show ¬ (0 : Int) = 1 by decide, show ¬ (0 : Int) = 2 by decide])
          exact F27.k5.to h
        · rw [if_pos rfl, if_neg n0] at h
          repeat (first | refine C.load1_of (v := .int .i64 0) hb rfl ?_ | refine C.load1_of (v := .int .i64 n) hb rfl ?_ | simp only [C.ite_true, C.ite_false, C.pick_true, C.pick_false, C.not_bool, C.field_ptr, C.nilCheck_ptr, C.add_mk, C.sub_mk, C.mul_mk, C.eql_mk, C.neq_mk, C.lss_mk, C.leq_mk, C.gtr_mk, C.geq_mk, C.conv_mk, C.len_mk, C.ext_0, C.ext_1, C.ext3_0, C.ext3_1, C.ext3_2, C.guarded_yes, C.guarded_tf, C.guarded_ft, C.guarded_undef, Bool.not_true, Bool.not_false, Nat.zero_add, eq_self, decide_true, decide_false, n0, ne_eq, not_false_eq_true])
          exact h
      · rw [if_neg (by decide), if_pos rfl] at h
        by_cases h1 : n < -1099511627776
        · rw [if_neg (by omega)] at h
          repeat (first | refine C.load1_of (v := .int .i64 1) hb rfl ?_ | refine C.load1_of (v := .int .i64 n) hb rfl ?_ | simp only [C.ite_true, C.ite_false, C.pick_true, C.pick_false, C.not_bool, C.field_ptr, C.nilCheck_ptr, C.add_mk, C.sub_mk, C.mul_mk, C.eql_mk, C.neq_mk, C.lss_mk, C.leq_mk, C.gtr_mk, C.geq_mk, C.conv_mk, C.len_mk, C.ext_0, C.ext_1, C.ext3_0, C.ext3_1, C.ext3_2, C.guarded_yes, C.guarded_tf, C.guarded_ft, C.guarded_undef, Bool.not_true, Bool.not_false, Nat.zero_add, eq_self, decide_true, decide_false, h1, show ¬ (1 : Int) = 0 by decide])
          exact h
        · by_cases h2 : n > 1099511627775
          · rw [if_neg (by omega)] at h
            repeat (first | refine C.load1_of (v := .int .i64 1) hb rfl ?_ | refine C.load1_of (v := .int .i64 n) hb rfl ?_ | simp only [C.ite_true, C.ite_false, C.pick_true, C.pick_false, C.not_bool, C.field_ptr, C.nilCheck_ptr, C.add_mk, C.sub_mk, C.mul_mk, C.eql_mk, C.neq_mk, C.lss_mk, C.leq_mk, C.gtr_mk, C.geq_mk, C.conv_mk, C.len_mk, C.ext_0, C.ext_1, C.ext3_0, C.ext3_1, C.ext3_2, C.guarded_yes, C.guarded_tf, C.guarded_ft, C.guarded_undef, Bool.not_true, Bool.not_false, Nat.zero_add, eq_self, decide_true, decide_false, h1, h2, show ¬ (1 : Int) = 0 by decide])
            exact h
          · rw [if_pos (by omega)] at h
            repeat (first | refine C.load1_of (v := .int .i64 1) hb rfl ?_ | refine C.load1_of (v := .int .i64 n) hb rfl ?_ | simp only [C.ite_true, C.ite_false, C.pick_true, C.pick_false, C.not_bool, C.field_ptr, C.nilCheck_ptr, C.add_mk, C.sub_mk, C.mul_mk, C.eql_mk, C.neq_mk, C.lss_mk, C.leq_mk, C.gtr_mk, C.geq_mk, C.conv_mk, C.len_mk, C.ext_0, C.ext_1, C.ext3_0, C.ext3_1, C.ext3_2, C.guarded_yes, C.guarded_tf, C.guarded_ft, C.guarded_undef, Bool.not_true, Bool.not_false, Nat.zero_add, eq_self, decide_true, decide_false, h1, h2, show ¬ (1 : Int) = 0 by decide, show ¬ (1 : Int) = 2 by decide])
            exact F27.k5.to h
      · rw [if_neg (by decide), if_neg (by decide), if_pos rfl] at h
        by_cases h1 : n < 0
        · rw [if_neg (by omega)] at h
          repeat (first | refine C.load1_of (v := .int .i64 2) hb rfl ?_ | refine C.load1_of (v := .int .i64 n) hb rfl ?_ | simp only [C.ite_true, C.ite_false, C.pick_true, C.pick_false, C.not_bool, C.field_ptr, C.nilCheck_ptr, C.add_mk, C.sub_mk, C.mul_mk, C.eql_mk, C.neq_mk, C.lss_mk, C.leq_mk, C.gtr_mk, C.geq_mk, C.conv_mk, C.len_mk, C.ext_0, C.ext_1, C.ext3_0, C.ext3_1, C.ext3_2, C.guarded_yes, C.guarded_tf, C.guarded_ft, C.guarded_undef, Bool.not_true, Bool.not_false, Nat.zero_add, eq_self, decide_true, decide_false, h1, show ¬ (2 : Int) = 0 by decide, show ¬ (2 : Int) = 1 by decide])
          exact h
        · by_cases h2 : n > 2047
          · rw [if_neg (by omega)] at h
            repeat (first | refine C.load1_of (v := .int .i64 2) hb rfl ?_ | refine C.load1_of (v := .int .i64 n) hb rfl ?_ | simp only [C.ite_true, C.ite_false, C.pick_true, C.pick_false, C.not_bool, C.field_ptr, C.nilCheck_ptr, C.add_mk, C.sub_mk, C.mul_mk, C.eql_mk, C.neq_mk, C.lss_mk, C.leq_mk, C.gtr_mk, C.geq_mk, C.conv_mk, C.len_mk, C.ext_0, C.ext_1, C.ext3_0, C.ext3_1, C.ext3_2, C.guarded_yes, C.guarded_tf, C.guarded_ft, C.guarded_undef, Bool.not_true, Bool.not_false, Nat.zero_add, eq_self, decide_true, decide_false, h1, h2, show ¬ (2 : Int) = 0 by decide, show ¬ (2 : Int) = 1 by decide])
            exact h
          · rw [if_pos (by omega)] at h
            repeat (first | refine C.load1_of (v := .int .i64 2) hb rfl ?_ | refine C.load1_of (v := .int .i64 n) hb rfl ?_ | simp only [C.ite_true, C.ite_false, C.pick_true, C.pick_false, C.not_bool, C.field_ptr, C.nilCheck_ptr, C.add_mk, C.sub_mk, C.mul_mk, C.eql_mk, C.neq_mk, C.lss_mk, C.leq_mk, C.gtr_mk, C.geq_mk, C.conv_mk, C.len_mk, C.ext_0, C.ext_1, C.ext3_0, C.ext3_1, C.ext3_2, C.guarded_yes, C.guarded_tf, C.guarded_ft, C.guarded_undef, Bool.not_true, Bool.not_false, Nat.zero_add, eq_self, decide_true, decide_false, h1, h2, show ¬ (2 : Int) = 0 by decide, show ¬ (2 : Int) = 1 by decide])
            exact F27.k5.to h
theorem chk_kind {k n : Int} (h : chk k n = 0) : (k = 0 ∧ n = 0) ∨ (k = 1 ∧ -1099511627776 ≤ n ∧ n < 1099511627776) ∨ (k = 2 ∧ 0 ≤ n ∧ n < 2048) := by
  unfold chk at h
  split at h
  · split at h <;> omega
  · split at h
    · split at h <;> omega
    · split at h
      · split at h <;> omega
      · omega
theorem RefPut_c (k n : Int) (hc : chk k n = 0) (h : ∀ w', Fr [] w w' → K (.int .i64 (putW k n)) w') : C.call Try.prog 30 #[V k n] w K := by
  refine F30.sh (C.new_of fun b w1 hn => ?_)
  have hb : w1.heap[b]? = some (vB k n) := hn.at_
  have h := h w1 hn.fr
  unfold putW at h
  rcases chk_kind hc with ⟨rfl, rfl⟩ | ⟨rfl, h1, h2⟩ | ⟨rfl, h1, h2⟩
  · repeat (first | refine C.load1_of (v := .int .i64 0) hb rfl ?_ | simp only [C.ite_true, C.ite_false, C.pick_true, C.pick_false, C.not_bool, C.field_ptr, C.nilCheck_ptr, C.add_mk, C.sub_mk, C.mul_mk, C.eql_mk, C.neq_mk, C.lss_mk, C.leq_mk, C.gtr_mk, C.geq_mk, C.conv_mk, C.len_mk, C.ext_0, C.ext_1, C.ext3_0, C.ext3_1, C.ext3_2, C.guarded_yes, C.guarded_tf, C.guarded_ft, C.guarded_undef, Bool.not_true, Bool.not_false, Nat.zero_add, eq_self, decide_true, decide_false])
    exact h
  · repeat (first | refine C.load1_of (v := .int .i64 1) hb rfl ?_ | simp only [C.ite_true, C.ite_false, C.pick_true, C.pick_false, C.not_bool, C.field_ptr, C.nilCheck_ptr, C.add_mk, C.sub_mk, C.mul_mk, C.eql_mk, C.neq_mk, C.lss_mk, C.leq_mk, C.gtr_mk, C.geq_mk, C.conv_mk, C.len_mk, C.ext_0, C.ext_1, C.ext3_0, C.ext3_1, C.ext3_2, C.guarded_yes, C.guarded_tf, C.guarded_ft, C.guarded_undef, Bool.not_true, Bool.not_false, Nat.zero_add, eq_self, decide_true, decide_false, show ¬ (1 : Int) = 0 by decide])
    refine F30.k3.to ?_
    repeat (first | refine C.load1_of (v := .int .i64 1) hb rfl ?_ | refine C.load1_of (v := .int .i64 n) hb rfl ?_ | simp only [C.ite_true, C.ite_false, C.pick_true, C.pick_false, C.not_bool, C.field_ptr, C.nilCheck_ptr, C.add_mk, C.sub_mk, C.mul_mk, C.eql_mk, C.neq_mk, C.lss_mk, C.leq_mk, C.gtr_mk, C.geq_mk, C.conv_mk, C.len_mk, C.ext_0, C.ext_1, C.ext3_0, C.ext3_1, C.ext3_2, C.guarded_yes, C.guarded_tf, C.guarded_ft, C.guarded_undef, Bool.not_true, Bool.not_false, Nat.zero_add, eq_self, decide_true, decide_false])
    rw [wrap64_id (n := 2 * n) (by omega), wrap64_id (n := 2 * n + 1) (by omega)]
    exact h
  · repeat (first | refine C.load1_of (v := .int .i64 2) hb rfl ?_ | simp only [C.ite_true, C.ite_false, C.pick_true, C.pick_false, C.not_bool, C.field_ptr, C.nilCheck_ptr, C.add_mk, C.sub_mk, C.mul_mk, C.eql_mk, C.neq_mk, C.lss_mk, C.leq_mk, C.gtr_mk, C.geq_mk, C.conv_mk, C.len_mk, C.ext_0, C.ext_1, C.ext3_0, C.ext3_1, C.ext3_2, C.guarded_yes, C.guarded_tf, C.guarded_ft, C.guarded_undef, Bool.not_true, Bool.not_false, Nat.zero_add, eq_self, decide_true, decide_false, show ¬ (2 : Int) = 0 by decide])
    refine F30.k3.to ?_
    repeat (first | refine C.load1_of (v := .int .i64 2) hb rfl ?_ | refine C.load1_of (v := .int .i64 n) hb rfl ?_ | simp only [C.ite_true, C.ite_false, C.pick_true, C.pick_false, C.not_bool, C.field_ptr, C.nilCheck_ptr, C.add_mk, C.sub_mk, C.mul_mk, C.eql_mk, C.neq_mk, C.lss_mk, C.leq_mk, C.gtr_mk, C.geq_mk, C.conv_mk, C.len_mk, C.ext_0, C.ext_1, C.ext3_0, C.ext3_1, C.ext3_2, C.guarded_yes, C.guarded_tf, C.guarded_ft, C.guarded_undef, Bool.not_true, Bool.not_false, Nat.zero_add, eq_self, decide_true, decide_false])
    rw [wrap64_id (n := 2 * n) (by omega), wrap64_id (n := 2 * n + 2) (by omega)]
    exact h
theorem WordPuts_c (k n : Int) (h : ∀ w', Fr [] w w' → K (.bool true) w') : C.call Try.prog 5 #[V k n] w K := by
  refine F5.sh (C.new_of fun b w1 hn => WAlive_c fun w2 hf2 => ?_)
  have hb : w2.heap[b]? = some (vB k n) := hf2.at_ hn.at_ (by simp)
  have hf : Fr [] w w2 := hn.fr.trans hf2
  simp only [C.ite_true, C.ite_false, C.pick_true, C.pick_false, C.not_bool, C.field_ptr, C.nilCheck_ptr, C.add_mk, C.sub_mk, C.mul_mk, C.eql_mk, C.neq_mk, C.lss_mk, C.leq_mk, C.gtr_mk, C.geq_mk, C.conv_mk, C.len_mk, C.ext_0, C.ext_1, C.ext3_0, C.ext3_1, C.ext3_2, C.guarded_yes, C.guarded_tf, C.guarded_ft, C.guarded_undef, Bool.not_true, Bool.not_false, Nat.zero_add, eq_self, decide_true, decide_false]
  refine F5.k3.to (C.loadA_all hb rfl (RefCheck_c k n fun w3 hf3 => C.loadA_all (hf3.at_ hb (by simp)) rfl ?_))
  by_cases hc : chk k n = 0
  · refine Put_yes k n hc fun w4 hf4 => ?_
    simp only [C.ite_true, C.ite_false, C.pick_true, C.pick_false, C.not_bool, C.field_ptr, C.nilCheck_ptr, C.add_mk, C.sub_mk, C.mul_mk, C.eql_mk, C.neq_mk, C.lss_mk, C.leq_mk, C.gtr_mk, C.geq_mk, C.conv_mk, C.len_mk, C.ext_0, C.ext_1, C.ext3_0, C.ext3_1, C.ext3_2, C.guarded_yes, C.guarded_tf, C.guarded_ft, C.guarded_undef, Bool.not_true, Bool.not_false, Nat.zero_add, eq_self, decide_true, decide_false, hc, ne_eq, not_true_eq_false]
    have hb4 := hf4.at_ (hf3.at_ hb (by simp)) (by simp)
    refine F5.k7.to (C.loadA_all hb4 rfl (Check_c k n fun w5 hf5 => ?_))
    simp only [C.ite_true, C.ite_false, C.pick_true, C.pick_false, C.not_bool, C.field_ptr, C.nilCheck_ptr, C.add_mk, C.sub_mk, C.mul_mk, C.eql_mk, C.neq_mk, C.lss_mk, C.leq_mk, C.gtr_mk, C.geq_mk, C.conv_mk, C.len_mk, C.ext_0, C.ext_1, C.ext3_0, C.ext3_1, C.ext3_2, C.guarded_yes, C.guarded_tf, C.guarded_ft, C.guarded_undef, Bool.not_true, Bool.not_false, Nat.zero_add, eq_self, decide_true, decide_false, hc]
    refine C.loadA_all (hf5.at_ hb4 (by simp)) rfl (RefPut_c k n hc fun w6 hf6 => ?_)
    simp only [C.ite_true, C.ite_false, C.pick_true, C.pick_false, C.not_bool, C.field_ptr, C.nilCheck_ptr, C.add_mk, C.sub_mk, C.mul_mk, C.eql_mk, C.neq_mk, C.lss_mk, C.leq_mk, C.gtr_mk, C.geq_mk, C.conv_mk, C.len_mk, C.ext_0, C.ext_1, C.ext3_0, C.ext3_1, C.ext3_2, C.guarded_yes, C.guarded_tf, C.guarded_ft, C.guarded_undef, Bool.not_true, Bool.not_false, Nat.zero_add, eq_self, decide_true, decide_false]
    exact h w6 (hf.trans (hf3.trans (hf4.trans (hf5.trans hf6))))
  · refine Put_no k n hc fun w4 hf4 => ?_
    simp only [C.ite_true, C.ite_false, C.pick_true, C.pick_false, C.not_bool, C.field_ptr, C.nilCheck_ptr, C.add_mk, C.sub_mk, C.mul_mk, C.eql_mk, C.neq_mk, C.lss_mk, C.leq_mk, C.gtr_mk, C.geq_mk, C.conv_mk, C.len_mk, C.ext_0, C.ext_1, C.ext3_0, C.ext3_1, C.ext3_2, C.guarded_yes, C.guarded_tf, C.guarded_ft, C.guarded_undef, Bool.not_true, Bool.not_false, Nat.zero_add, eq_self, decide_true, decide_false, hc, ne_eq, not_false_eq_true]
    have hb4 := hf4.at_ (hf3.at_ hb (by simp)) (by simp)
    refine C.loadA_all hb4 rfl (Check_c k n fun w5 hf5 => ?_)
    simp only [C.ite_true, C.ite_false, C.pick_true, C.pick_false, C.not_bool, C.field_ptr, C.nilCheck_ptr, C.add_mk, C.sub_mk, C.mul_mk, C.eql_mk, C.neq_mk, C.lss_mk, C.leq_mk, C.gtr_mk, C.geq_mk, C.conv_mk, C.len_mk, C.ext_0, C.ext_1, C.ext3_0, C.ext3_1, C.ext3_2, C.guarded_yes, C.guarded_tf, C.guarded_ft, C.guarded_undef, Bool.not_true, Bool.not_false, Nat.zero_add, eq_self, decide_true, decide_false]
    exact h w5 (hf.trans (hf3.trans (hf4.trans hf5)))
/-- May the number be a word? -/
def okW (a : Int) : Bool := decide (chk (rdK a) (rdN a) = 0)
theorem RefRead_c (a : Int) (ha : -9223372036854775808 ≤ a ∧ a ≤ 9223372036854775807) (h1 : chk (rdK a) (rdN a) = 0 → ∀ w', Fr [] w w' → K (.tuple #[V (rdK a) (rdN a), .bool true]) w') (h2 : chk (rdK a) (rdN a) ≠ 0 → ∀ w', Fr [] w w' → K (.tuple #[V 0 0, .bool false]) w') :
    C.call Try.prog 32 #[.int .i64 a] w K := by
  refine F32.sh (C.new_of fun r w1 hn => ?_)
  have hr : w1.heap[r]? = some (vB 0 0) := hn.at_
  have lr : w.heap.size ≤ r := by have := hn.is; omega
  have fin : ∀ (k n : Int) (b : Bool), (∀ w', Fr [] w w' → K (.tuple #[V k n, .bool b]) w') → C.store 2 (.pointer (some ⟨r, 0, none⟩)) (V k n) w1 fun w' => C.loadA 2 (.pointer (some ⟨r, 0, none⟩)) w' fun r5 _ => K (.tuple #[r5, .bool b]) w' := by
    intro k n b hk
    exact C.store_all hr rfl v2_cells rfl fun w2 hu => C.loadA_all hu.at_ rfl (hk w2 (hn.fr.then hu.fr (by simp; omega)))
  unfold rdK rdN at h1 h2
  by_cases z : a = 0
  · subst z
    simp only [C.ite_true, C.ite_false, C.pick_true, C.pick_false, C.not_bool, C.field_ptr, C.nilCheck_ptr, C.add_mk, C.sub_mk, C.mul_mk, C.eql_mk, C.neq_mk, C.lss_mk, C.leq_mk, C.gtr_mk, C.geq_mk, C.conv_mk, C.len_mk, C.ext_0, C.ext_1, C.ext3_0, C.ext3_1, C.ext3_2, C.guarded_yes, C.guarded_tf, C.guarded_ft, C.guarded_undef, Bool.not_true, Bool.not_false, Nat.zero_add, eq_self, decide_true, decide_false]
    exact C.run_of build40_0 (fin 0 0 true (h1 (by decide)))
  · simp only [C.ite_true, C.ite_false, C.pick_true, C.pick_false, C.not_bool, C.field_ptr, C.nilCheck_ptr, C.add_mk, C.sub_mk, C.mul_mk, C.eql_mk, C.neq_mk, C.lss_mk, C.leq_mk, C.gtr_mk, C.geq_mk, C.conv_mk, C.len_mk, C.ext_0, C.ext_1, C.ext3_0, C.ext3_1, C.ext3_2, C.guarded_yes, C.guarded_tf, C.guarded_ft, C.guarded_undef, Bool.not_true, Bool.not_false, Nat.zero_add, eq_self, decide_true, decide_false, z]
    refine F32.k3.to ⟨_, rem_run _ _ _ _ (by decide), ?_⟩
    by_cases e : a % 2 = 0
    · have e2 := tdiv2 a e
      have e3 : a.tmod 2 = 0 := by rw [Int.tmod_def]; omega
      have o : ¬ a % 2 = 1 := by omega
      simp only [if_neg o, if_neg z] at h1 h2
      rw [e2] at h1 h2
      simp only [C.ite_true, C.ite_false, C.pick_true, C.pick_false, C.not_bool, C.field_ptr, C.nilCheck_ptr, C.add_mk, C.sub_mk, C.mul_mk, C.eql_mk, C.neq_mk, C.lss_mk, C.leq_mk, C.gtr_mk, C.geq_mk, C.conv_mk, C.len_mk, C.ext_0, C.ext_1, C.ext3_0, C.ext3_1, C.ext3_2, C.guarded_yes, C.guarded_tf, C.guarded_ft, C.guarded_undef, Bool.not_true, Bool.not_false, Nat.zero_add, eq_self, decide_true, decide_false, e3]
      have hchk : chk 2 (a / 2 - 1) = (if 0 ≤ a / 2 - 1 ∧ a / 2 - 1 < 2048 then 0 else 4) := by unfold chk; rw [if_neg (by decide), if_neg (by decide), if_pos rfl]
      by_cases l1 : a < 2
      · simp only [C.ite_true, C.ite_false, C.pick_true, C.pick_false, C.not_bool, C.field_ptr, C.nilCheck_ptr, C.add_mk, C.sub_mk, C.mul_mk, C.eql_mk, C.neq_mk, C.lss_mk, C.leq_mk, C.gtr_mk, C.geq_mk, C.conv_mk, C.len_mk, C.ext_0, C.ext_1, C.ext3_0, C.ext3_1, C.ext3_2, C.guarded_yes, C.guarded_tf, C.guarded_ft, C.guarded_undef, Bool.not_true, Bool.not_false, Nat.zero_add, eq_self, decide_true, decide_false, l1]
        exact C.run_of build40_0 (fin 0 0 false (h2 (by rw [hchk, if_neg (by omega)]; decide)))
      · by_cases l2 : a > 4096
        · simp only [C.ite_true, C.ite_false, C.pick_true, C.pick_false, C.not_bool, C.field_ptr, C.nilCheck_ptr, C.add_mk, C.sub_mk, C.mul_mk, C.eql_mk, C.neq_mk, C.lss_mk, C.leq_mk, C.gtr_mk, C.geq_mk, C.conv_mk, C.len_mk, C.ext_0, C.ext_1, C.ext3_0, C.ext3_1, C.ext3_2, C.guarded_yes, C.guarded_tf, C.guarded_ft, C.guarded_undef, Bool.not_true, Bool.not_false, Nat.zero_add, eq_self, decide_true, decide_false, l1, l2]
          exact C.run_of build40_0 (fin 0 0 false (h2 (by rw [hchk, if_neg (by omega)]; decide)))
        · simp only [C.ite_true, C.ite_false, C.pick_true, C.pick_false, C.not_bool, C.field_ptr, C.nilCheck_ptr, C.add_mk, C.sub_mk, C.mul_mk, C.eql_mk, C.neq_mk, C.lss_mk, C.leq_mk, C.gtr_mk, C.geq_mk, C.conv_mk, C.len_mk, C.ext_0, C.ext_1, C.ext3_0, C.ext3_1, C.ext3_2, C.guarded_yes, C.guarded_tf, C.guarded_ft, C.guarded_undef, Bool.not_true, Bool.not_false, Nat.zero_add, eq_self, decide_true, decide_false, l1, l2]
          refine F32.k6.to ?_
          simp only [C.ite_true, C.ite_false, C.pick_true, C.pick_false, C.not_bool, C.field_ptr, C.nilCheck_ptr, C.add_mk, C.sub_mk, C.mul_mk, C.eql_mk, C.neq_mk, C.lss_mk, C.leq_mk, C.gtr_mk, C.geq_mk, C.conv_mk, C.len_mk, C.ext_0, C.ext_1, C.ext3_0, C.ext3_1, C.ext3_2, C.guarded_yes, C.guarded_tf, C.guarded_ft, C.guarded_undef, Bool.not_true, Bool.not_false, Nat.zero_add, eq_self, decide_true, decide_false]
          rw [wrap64_id (n := a - 2) (by omega)]
          have e4 := tdiv2 (a - 2) (by omega)
          refine ⟨_, quo_run _ _ _ _ (by decide), C.run_of (build40 _ _) ?_⟩
          rw [wrap64_id (n := (a - 2).tdiv 2) (by omega), e4, show (a - 2) / 2 = a / 2 - 1 by omega]
          exact fin _ _ true (h1 (by rw [hchk, if_pos (by omega)]))
    · have o : a % 2 = 1 := by omega
      have e3 : ¬ a.tmod 2 = 0 := by
        intro h0
        have := Int.tmod_add_mul_tdiv a 2
        omega
      simp only [if_pos o] at h1 h2
      simp only [C.ite_true, C.ite_false, C.pick_true, C.pick_false, C.not_bool, C.field_ptr, C.nilCheck_ptr, C.add_mk, C.sub_mk, C.mul_mk, C.eql_mk, C.neq_mk, C.lss_mk, C.leq_mk, C.gtr_mk, C.geq_mk, C.conv_mk, C.len_mk, C.ext_0, C.ext_1, C.ext3_0, C.ext3_1, C.ext3_2, C.guarded_yes, C.guarded_tf, C.guarded_ft, C.guarded_undef, Bool.not_true, Bool.not_false, Nat.zero_add, eq_self, decide_true, decide_false, e3]
      refine F32.k7.to ?_
      have hchk : chk 1 (a / 2) = (if -1099511627776 ≤ a / 2 ∧ a / 2 < 1099511627776 then 0 else 4) := by unfold chk; rw [if_neg (by decide), if_pos rfl]
      by_cases l1 : a < -2199023255551
      · simp only [C.ite_true, C.ite_false, C.pick_true, C.pick_false, C.not_bool, C.field_ptr, C.nilCheck_ptr, C.add_mk, C.sub_mk, C.mul_mk, C.eql_mk, C.neq_mk, C.lss_mk, C.leq_mk, C.gtr_mk, C.geq_mk, C.conv_mk, C.len_mk, C.ext_0, C.ext_1, C.ext3_0, C.ext3_1, C.ext3_2, C.guarded_yes, C.guarded_tf, C.guarded_ft, C.guarded_undef, Bool.not_true, Bool.not_false, Nat.zero_add, eq_self, decide_true, decide_false, l1]
        exact C.run_of build40_0 (fin 0 0 false (h2 (by rw [hchk, if_neg (by omega)]; decide)))
      · by_cases l2 : a > 2199023255551
        · simp only [C.ite_true, C.ite_false, C.pick_true, C.pick_false, C.not_bool, C.field_ptr, C.nilCheck_ptr, C.add_mk, C.sub_mk, C.mul_mk, C.eql_mk, C.neq_mk, C.lss_mk, C.leq_mk, C.gtr_mk, C.geq_mk, C.conv_mk, C.len_mk, C.ext_0, C.ext_1, C.ext3_0, C.ext3_1, C.ext3_2, C.guarded_yes, C.guarded_tf, C.guarded_ft, C.guarded_undef, Bool.not_true, Bool.not_false, Nat.zero_add, eq_self, decide_true, decide_false, l1, l2]
          exact C.run_of build40_0 (fin 0 0 false (h2 (by rw [hchk, if_neg (by omega)]; decide)))
        · simp only [C.ite_true, C.ite_false, C.pick_true, C.pick_false, C.not_bool, C.field_ptr, C.nilCheck_ptr, C.add_mk, C.sub_mk, C.mul_mk, C.eql_mk, C.neq_mk, C.lss_mk, C.leq_mk, C.gtr_mk, C.geq_mk, C.conv_mk, C.len_mk, C.ext_0, C.ext_1, C.ext3_0, C.ext3_1, C.ext3_2, C.guarded_yes, C.guarded_tf, C.guarded_ft, C.guarded_undef, Bool.not_true, Bool.not_false, Nat.zero_add, eq_self, decide_true, decide_false, l1, l2]
          refine F32.k9.to ?_
          simp only [C.ite_true, C.ite_false, C.pick_true, C.pick_false, C.not_bool, C.field_ptr, C.nilCheck_ptr, C.add_mk, C.sub_mk, C.mul_mk, C.eql_mk, C.neq_mk, C.lss_mk, C.leq_mk, C.gtr_mk, C.geq_mk, C.conv_mk, C.len_mk, C.ext_0, C.ext_1, C.ext3_0, C.ext3_1, C.ext3_2, C.guarded_yes, C.guarded_tf, C.guarded_ft, C.guarded_undef, Bool.not_true, Bool.not_false, Nat.zero_add, eq_self, decide_true, decide_false]
          rw [wrap64_id (n := a - 1) (by omega)]
          have e4 := tdiv2 (a - 1) (by omega)
          refine ⟨_, quo_run _ _ _ _ (by decide), C.run_of (build40 _ _) ?_⟩
          rw [wrap64_id (n := (a - 1).tdiv 2) (by omega), e4, show (a - 1) / 2 = a / 2 by omega]
          exact fin _ _ true (h1 (by rw [hchk, if_pos (by omega)]))
end
end Go.Proofs.YtckageghbhkklaaV
