/- The functions of package bank: what each call comes to. -/
import Derived.Test.YtfhgjncbhjjbfaaGAud
import Derived.Test.YtfhgjncbhjjbfaaVc5
namespace Go.Proofs.YtfhgjncbhjjbfaaV
open Go Go.Proofs
set_option linter.unusedVariables false
set_option linter.unusedSimpArgs false

/-- A bank in memory. -/
def bk (i o l : Int) (made : Bool) (m : Int) : Obj := .cells #[.int .i64 i, .int .i64 o, .int .i64 l, .bool made, .int .i64 m] 95 (0, 0)
def clamp (n lo hi : Int) : Int := if n < lo then lo else if n > hi then hi else n
theorem clamp_bd (n lo hi : Int) (h : lo ≤ hi) : lo ≤ clamp n lo hi ∧ clamp n lo hi ≤ hi := by unfold clamp; omega
section
variable {K : VK} {w : World}
theorem Clamp_c (n lo hi : Int) (h : K (.int .i64 (clamp n lo hi)) w) : C.call Try.prog 85 #[.int .i64 n, .int .i64 lo, .int .i64 hi] w K := by
  refine F85.sh ?_
  simp only [C.ite_true, C.ite_false, C.pick_true, C.pick_false, C.not_bool, C.field_ptr, C.nilCheck_ptr, C.add_mk, C.sub_mk, C.mul_mk, C.eql_mk, C.neq_mk, C.lss_mk, C.leq_mk, C.gtr_mk, C.geq_mk, C.conv_mk, C.len_mk, C.ext_0, C.ext_1, C.ext3_0, C.ext3_1, C.ext3_2, C.guarded_yes, C.guarded_tf, C.guarded_ft, C.guarded_undef, Bool.not_true, Bool.not_false, Nat.zero_add, eq_self, decide_true, decide_false, C.ite_bool, decide_eq_true_eq, decide_eq_false_iff_not]
  unfold clamp at h
  refine ⟨fun h1 => by rwa [if_pos h1] at h, fun h1 => ?_⟩
  rw [if_neg h1] at h
  refine ⟨fun h2 => by rwa [if_pos h2] at h, fun h2 => ?_⟩
  rw [if_neg h2] at h
  exact F85.k5.to h
theorem Near_c (n lo hi : Int) (h : K (.int .i64 (clamp n lo hi)) w) : C.call Try.prog 16 #[.int .i64 n, .int .i64 lo, .int .i64 hi] w K := by
  refine F16.sh ?_
  simp only [C.ite_true, C.ite_false, C.pick_true, C.pick_false, C.not_bool, C.field_ptr, C.nilCheck_ptr, C.add_mk, C.sub_mk, C.mul_mk, C.eql_mk, C.neq_mk, C.lss_mk, C.leq_mk, C.gtr_mk, C.geq_mk, C.conv_mk, C.len_mk, C.ext_0, C.ext_1, C.ext3_0, C.ext3_1, C.ext3_2, C.guarded_yes, C.guarded_tf, C.guarded_ft, C.guarded_undef, Bool.not_true, Bool.not_false, Nat.zero_add, eq_self, decide_true, decide_false, C.ite_bool, decide_eq_true_eq, decide_eq_false_iff_not]
  unfold clamp at h
  refine ⟨fun h1 => by rwa [if_pos h1] at h, fun h1 => ?_⟩
  rw [if_neg h1] at h
  refine F16.k3.to ?_
  simp only [C.ite_true, C.ite_false, C.pick_true, C.pick_false, C.not_bool, C.field_ptr, C.nilCheck_ptr, C.add_mk, C.sub_mk, C.mul_mk, C.eql_mk, C.neq_mk, C.lss_mk, C.leq_mk, C.gtr_mk, C.geq_mk, C.conv_mk, C.len_mk, C.ext_0, C.ext_1, C.ext3_0, C.ext3_1, C.ext3_2, C.guarded_yes, C.guarded_tf, C.guarded_ft, C.guarded_undef, Bool.not_true, Bool.not_false, Nat.zero_add, eq_self, decide_true, decide_false, C.ite_bool, decide_eq_true_eq, decide_eq_false_iff_not]
  refine ⟨fun h2 => by rwa [if_pos h2] at h, fun h2 => ?_⟩
  rw [if_neg h2] at h
  exact F16.k5.to h
theorem bank_is_c {g : Nat} {i o l m : Int} {made : Bool} (hg : w.heap[g]? = some (bk i o l made m)) (h : K (.bool made) w) : C.call Try.prog 86 #[.pointer (some ⟨g, 0, none⟩)] w K := by
  refine F86.sh ?_
  refine ⟨_, neq_ptr_nil _ _ _ Try.underlying70, ?_⟩
  simp only [C.ite_true, C.ite_false, C.pick_true, C.pick_false, C.not_bool, C.field_ptr, C.nilCheck_ptr, C.add_mk, C.sub_mk, C.mul_mk, C.eql_mk, C.neq_mk, C.lss_mk, C.leq_mk, C.gtr_mk, C.geq_mk, C.conv_mk, C.len_mk, C.ext_0, C.ext_1, C.ext3_0, C.ext3_1, C.ext3_2, C.guarded_yes, C.guarded_tf, C.guarded_ft, C.guarded_undef, Bool.not_true, Bool.not_false, Nat.zero_add, eq_self, decide_true, decide_false]
  refine C.load1_of (v := .bool made) hg rfl ?_
  simpa only [C.ite_true, C.ite_false, C.pick_true, C.pick_false, C.not_bool, C.field_ptr, C.nilCheck_ptr, C.add_mk, C.sub_mk, C.mul_mk, C.eql_mk, C.neq_mk, C.lss_mk, C.leq_mk, C.gtr_mk, C.geq_mk, C.conv_mk, C.len_mk, C.ext_0, C.ext_1, C.ext3_0, C.ext3_1, C.ext3_2, C.guarded_yes, C.guarded_tf, C.guarded_ft, C.guarded_undef, Bool.not_true, Bool.not_false, Nat.zero_add, eq_self, decide_true, decide_false] using h
theorem is_nil (h : K (.bool false) w) : C.call Try.prog 86 #[.pointer none] w K := by
  refine F86.sh ?_
  refine ⟨_, neq_nil_nil _ _ Try.underlying70, ?_⟩
  simp only [C.ite_true, C.ite_false, C.pick_true, C.pick_false, C.not_bool, C.field_ptr, C.nilCheck_ptr, C.add_mk, C.sub_mk, C.mul_mk, C.eql_mk, C.neq_mk, C.lss_mk, C.leq_mk, C.gtr_mk, C.geq_mk, C.conv_mk, C.len_mk, C.ext_0, C.ext_1, C.ext3_0, C.ext3_1, C.ext3_2, C.guarded_yes, C.guarded_tf, C.guarded_ft, C.guarded_undef, Bool.not_true, Bool.not_false, Nat.zero_add, eq_self, decide_true, decide_false]
  exact h
theorem fl_balance {g : Nat} {i o l m : Int} {made : Bool} (hg : w.heap[g]? = some (bk i o l made m)) (h : ∀ w', Fr [] w w' → w'.heap = w.heap → K (.int .i64 (IntKind.i64.wrap (i - o))) w') :
    C.call Try.prog 88 #[.pointer (some ⟨g, 0, none⟩)] w K := by
  refine F88.sh (C.draw_of (fun w' => w'.heap[g]? = some (bk i o l made m)) fun w1 hf he => ⟨by rw [he]; exact hg, ?_⟩)
  simp only [C.ite_true, C.ite_false, C.pick_true, C.pick_false, C.not_bool, C.field_ptr, C.nilCheck_ptr, C.add_mk, C.sub_mk, C.mul_mk, C.eql_mk, C.neq_mk, C.lss_mk, C.leq_mk, C.gtr_mk, C.geq_mk, C.conv_mk, C.len_mk, C.ext_0, C.ext_1, C.ext3_0, C.ext3_1, C.ext3_2, C.guarded_yes, C.guarded_tf, C.guarded_ft, C.guarded_undef, Bool.not_true, Bool.not_false, Nat.zero_add, eq_self, decide_true, decide_false]
  refine C.load1S_of (v := .int .i64 i) (fun w' hw => ⟨_, _, _, hw, rfl⟩) (C.load1S_of (v := .int .i64 o) (fun w' hw => ⟨_, _, _, hw, rfl⟩) ?_)
  simp only [C.ite_true, C.ite_false, C.pick_true, C.pick_false, C.not_bool, C.field_ptr, C.nilCheck_ptr, C.add_mk, C.sub_mk, C.mul_mk, C.eql_mk, C.neq_mk, C.lss_mk, C.leq_mk, C.gtr_mk, C.geq_mk, C.conv_mk, C.len_mk, C.ext_0, C.ext_1, C.ext3_0, C.ext3_1, C.ext3_2, C.guarded_yes, C.guarded_tf, C.guarded_ft, C.guarded_undef, Bool.not_true, Bool.not_false, Nat.zero_add, eq_self, decide_true, decide_false]
  exact h w1 hf he
theorem bank_own_c {g : Nat} {i o l m : Int} (hg : w.heap[g]? = some (bk i o l true m)) (h : K (.pointer (some ⟨g, 0, none⟩)) w) : C.call Try.prog 87 #[.pointer (some ⟨g, 0, none⟩)] w K := by
  refine F87.sh (bank_is_c hg ?_)
  simp only [C.ite_true, C.ite_false, C.pick_true, C.pick_false, C.not_bool, C.field_ptr, C.nilCheck_ptr, C.add_mk, C.sub_mk, C.mul_mk, C.eql_mk, C.neq_mk, C.lss_mk, C.leq_mk, C.gtr_mk, C.geq_mk, C.conv_mk, C.len_mk, C.ext_0, C.ext_1, C.ext3_0, C.ext3_1, C.ext3_2, C.guarded_yes, C.guarded_tf, C.guarded_ft, C.guarded_undef, Bool.not_true, Bool.not_false, Nat.zero_add, eq_self, decide_true, decide_false]
  refine F87.k3.to ?_
  simp only [C.ite_true, C.ite_false, C.pick_true, C.pick_false, C.not_bool, C.field_ptr, C.nilCheck_ptr, C.add_mk, C.sub_mk, C.mul_mk, C.eql_mk, C.neq_mk, C.lss_mk, C.leq_mk, C.gtr_mk, C.geq_mk, C.conv_mk, C.len_mk, C.ext_0, C.ext_1, C.ext3_0, C.ext3_1, C.ext3_2, C.guarded_yes, C.guarded_tf, C.guarded_ft, C.guarded_undef, Bool.not_true, Bool.not_false, Nat.zero_add, eq_self, decide_true, decide_false]
  exact h
theorem Balance_c {g : Nat} {i o l m : Int} (hg : w.heap[g]? = some (bk i o l true m)) (h : ∀ w', Fr [] w w' → w'.heap = w.heap → K (.int .i64 (IntKind.i64.wrap (i - o))) w') :
    C.call Try.prog 58 #[.pointer (some ⟨g, 0, none⟩)] w K := F58.sh (bank_own_c hg (fl_balance hg h))
theorem bank_In_c {g : Nat} {i o l m : Int} (hg : w.heap[g]? = some (bk i o l true m)) (h : K (.int .i64 i) w) : C.call Try.prog 59 #[.pointer (some ⟨g, 0, none⟩)] w K := by
  refine F59.sh (bank_own_c hg (F89.sh ?_))
  simp only [C.ite_true, C.ite_false, C.pick_true, C.pick_false, C.not_bool, C.field_ptr, C.nilCheck_ptr, C.add_mk, C.sub_mk, C.mul_mk, C.eql_mk, C.neq_mk, C.lss_mk, C.leq_mk, C.gtr_mk, C.geq_mk, C.conv_mk, C.len_mk, C.ext_0, C.ext_1, C.ext3_0, C.ext3_1, C.ext3_2, C.guarded_yes, C.guarded_tf, C.guarded_ft, C.guarded_undef, Bool.not_true, Bool.not_false, Nat.zero_add, eq_self, decide_true, decide_false]
  exact C.load1_of (v := .int .i64 i) hg rfl h
theorem bank_Out_c {g : Nat} {i o l m : Int} (hg : w.heap[g]? = some (bk i o l true m)) (h : K (.int .i64 o) w) : C.call Try.prog 60 #[.pointer (some ⟨g, 0, none⟩)] w K := by
  refine F60.sh (bank_own_c hg (F90.sh ?_))
  simp only [C.ite_true, C.ite_false, C.pick_true, C.pick_false, C.not_bool, C.field_ptr, C.nilCheck_ptr, C.add_mk, C.sub_mk, C.mul_mk, C.eql_mk, C.neq_mk, C.lss_mk, C.leq_mk, C.gtr_mk, C.geq_mk, C.conv_mk, C.len_mk, C.ext_0, C.ext_1, C.ext3_0, C.ext3_1, C.ext3_2, C.guarded_yes, C.guarded_tf, C.guarded_ft, C.guarded_undef, Bool.not_true, Bool.not_false, Nat.zero_add, eq_self, decide_true, decide_false]
  exact C.load1_of (v := .int .i64 o) hg rfl h
theorem Lost_c {g : Nat} {i o l m : Int} (hg : w.heap[g]? = some (bk i o l true m)) (h : K (.int .i64 l) w) : C.call Try.prog 61 #[.pointer (some ⟨g, 0, none⟩)] w K := by
  refine F61.sh (bank_own_c hg (F91.sh ?_))
  simp only [C.ite_true, C.ite_false, C.pick_true, C.pick_false, C.not_bool, C.field_ptr, C.nilCheck_ptr, C.add_mk, C.sub_mk, C.mul_mk, C.eql_mk, C.neq_mk, C.lss_mk, C.leq_mk, C.gtr_mk, C.geq_mk, C.conv_mk, C.len_mk, C.ext_0, C.ext_1, C.ext3_0, C.ext3_1, C.ext3_2, C.guarded_yes, C.guarded_tf, C.guarded_ft, C.guarded_undef, Bool.not_true, Bool.not_false, Nat.zero_add, eq_self, decide_true, decide_false]
  exact C.load1_of (v := .int .i64 l) hg rfl h
/-- What may be of a bank. -/
structure BkOk (i o l m : Int) : Prop where
  m1 : m ≤ 65535
  b0 : 0 ≤ i - o
  b1 : i - o ≤ m
  i0 : 0 ≤ i
  o0 : 0 ≤ o
  l0 : 0 ≤ l
  i1 : i ≤ 1152921504606846976
  l1 : l ≤ 1152921504606846976
theorem Put_c {g : Nat} {i o l m : Int} (n : Int) (hg : w.heap[g]? = some (bk i o l true m)) (hk : BkOk i o l m)
    (h : ∀ w', Fr [g] w w' → w'.heap[g]? = some (bk (i + min (clamp n 0 2147483648) (m - (i - o))) o (l + (clamp n 0 2147483648 - min (clamp n 0 2147483648) (m - (i - o)))) true m) → K (.int .i64 (min (clamp n 0 2147483648) (m - (i - o)))) w') :
    C.call Try.prog 57 #[.pointer (some ⟨g, 0, none⟩), .int .i64 n] w K := by
  obtain ⟨h1, h2, h3, h4, h5, h6, h7, h8⟩ := hk
  refine F57.sh (bank_is_c hg ?_)
  simp only [C.ite_true, C.ite_false, C.pick_true, C.pick_false, C.not_bool, C.field_ptr, C.nilCheck_ptr, C.add_mk, C.sub_mk, C.mul_mk, C.eql_mk, C.neq_mk, C.lss_mk, C.leq_mk, C.gtr_mk, C.geq_mk, C.conv_mk, C.len_mk, C.ext_0, C.ext_1, C.ext3_0, C.ext3_1, C.ext3_2, C.guarded_yes, C.guarded_tf, C.guarded_ft, C.guarded_undef, Bool.not_true, Bool.not_false, Nat.zero_add, eq_self, decide_true, decide_false]
  refine F57.k3.to (Clamp_c _ _ _ ?_)
  have hc := clamp_bd n 0 2147483648 (by omega)
  generalize clamp n 0 2147483648 = c at *
  refine C.draw_of (fun w' => w'.heap[g]? = some (bk i o l true m)) fun w1 hf1 he1 => ⟨by rw [he1]; exact hg, ?_⟩
  have hg1 : w1.heap[g]? = some (bk i o l true m) := by rw [he1]; exact hg
  simp only [C.ite_true, C.ite_false, C.pick_true, C.pick_false, C.not_bool, C.field_ptr, C.nilCheck_ptr, C.add_mk, C.sub_mk, C.mul_mk, C.eql_mk, C.neq_mk, C.lss_mk, C.leq_mk, C.gtr_mk, C.geq_mk, C.conv_mk, C.len_mk, C.ext_0, C.ext_1, C.ext3_0, C.ext3_1, C.ext3_2, C.guarded_yes, C.guarded_tf, C.guarded_ft, C.guarded_undef, Bool.not_true, Bool.not_false, Nat.zero_add, eq_self, decide_true, decide_false]
  refine C.load1S_of (v := .int .i64 m) (fun w' hw => ⟨_, _, _, hw, rfl⟩) ⟨Balance_c hg1 fun w2 hf2 he2 => ?_, trivial⟩
  have hg2 : w2.heap[g]? = some (bk i o l true m) := by rw [he2]; exact hg1
  refine ⟨hg2, ?_⟩
  rw [wrap64_id (n := i - o) (by omega)]
  simp only [C.ite_true, C.ite_false, C.pick_true, C.pick_false, C.not_bool, C.field_ptr, C.nilCheck_ptr, C.add_mk, C.sub_mk, C.mul_mk, C.eql_mk, C.neq_mk, C.lss_mk, C.leq_mk, C.gtr_mk, C.geq_mk, C.conv_mk, C.len_mk, C.ext_0, C.ext_1, C.ext3_0, C.ext3_1, C.ext3_2, C.guarded_yes, C.guarded_tf, C.guarded_ft, C.guarded_undef, Bool.not_true, Bool.not_false, Nat.zero_add, eq_self, decide_true, decide_false]
  rw [wrap64_id (n := m - (i - o)) (by omega)]
  generalize hq : min c (m - (i - o)) = q at *
  refine ⟨_, fun w' _ => min2_runb _ _ _ _ _ _, ?_⟩
  rw [hq]
  refine C.load1_of (v := .int .i64 i) hg2 rfl ?_
  simp only [C.ite_true, C.ite_false, C.pick_true, C.pick_false, C.not_bool, C.field_ptr, C.nilCheck_ptr, C.add_mk, C.sub_mk, C.mul_mk, C.eql_mk, C.neq_mk, C.lss_mk, C.leq_mk, C.gtr_mk, C.geq_mk, C.conv_mk, C.len_mk, C.ext_0, C.ext_1, C.ext3_0, C.ext3_1, C.ext3_2, C.guarded_yes, C.guarded_tf, C.guarded_ft, C.guarded_undef, Bool.not_true, Bool.not_false, Nat.zero_add, eq_self, decide_true, decide_false]
  rw [wrap64_id (n := i + q) (by omega)]
  refine C.store1_of hg2 rfl rfl (by simp) fun w3 hu3 => ?_
  refine C.load1_of (v := .int .i64 l) hu3.at_ rfl ?_
  simp only [C.ite_true, C.ite_false, C.pick_true, C.pick_false, C.not_bool, C.field_ptr, C.nilCheck_ptr, C.add_mk, C.sub_mk, C.mul_mk, C.eql_mk, C.neq_mk, C.lss_mk, C.leq_mk, C.gtr_mk, C.geq_mk, C.conv_mk, C.len_mk, C.ext_0, C.ext_1, C.ext3_0, C.ext3_1, C.ext3_2, C.guarded_yes, C.guarded_tf, C.guarded_ft, C.guarded_undef, Bool.not_true, Bool.not_false, Nat.zero_add, eq_self, decide_true, decide_false]
  rw [wrap64_id (n := c - q) (by omega), wrap64_id (n := l + (c - q)) (by omega)]
  refine C.store1_of hu3.at_ rfl rfl (by simp) fun w4 hu4 => ?_
  refine h w4 ?_ hu4.at_
  exact (hf1.w.trans hf2.w).trans (hu3.fr.trans hu4.fr)
theorem Spend_c {g : Nat} {i o l m : Int} (n : Int) (hg : w.heap[g]? = some (bk i o l true m)) (hk : BkOk i o l m)
    (h : ∀ w', Fr [g] w w' → w'.heap[g]? = some (bk i (o + clamp n 0 (i - o)) l true m) → K (.int .i64 (clamp n 0 (i - o))) w') :
    C.call Try.prog 56 #[.pointer (some ⟨g, 0, none⟩), .int .i64 n] w K := by
  obtain ⟨h1, h2, h3, h4, h5, h6, h7, h8⟩ := hk
  refine F56.sh (bank_is_c hg ?_)
  simp only [C.ite_true, C.ite_false, C.pick_true, C.pick_false, C.not_bool, C.field_ptr, C.nilCheck_ptr, C.add_mk, C.sub_mk, C.mul_mk, C.eql_mk, C.neq_mk, C.lss_mk, C.leq_mk, C.gtr_mk, C.geq_mk, C.conv_mk, C.len_mk, C.ext_0, C.ext_1, C.ext3_0, C.ext3_1, C.ext3_2, C.guarded_yes, C.guarded_tf, C.guarded_ft, C.guarded_undef, Bool.not_true, Bool.not_false, Nat.zero_add, eq_self, decide_true, decide_false]
  refine F56.k3.to (Balance_c hg fun w1 hf1 he1 => ?_)
  rw [wrap64_id (n := i - o) (by omega)]
  refine Clamp_c _ _ _ ?_
  have hc := clamp_bd n 0 (i - o) (by omega)
  generalize clamp n 0 (i - o) = c at *
  have hg1 : w1.heap[g]? = some (bk i o l true m) := by rw [he1]; exact hg
  simp only [C.ite_true, C.ite_false, C.pick_true, C.pick_false, C.not_bool, C.field_ptr, C.nilCheck_ptr, C.add_mk, C.sub_mk, C.mul_mk, C.eql_mk, C.neq_mk, C.lss_mk, C.leq_mk, C.gtr_mk, C.geq_mk, C.conv_mk, C.len_mk, C.ext_0, C.ext_1, C.ext3_0, C.ext3_1, C.ext3_2, C.guarded_yes, C.guarded_tf, C.guarded_ft, C.guarded_undef, Bool.not_true, Bool.not_false, Nat.zero_add, eq_self, decide_true, decide_false]
  refine C.load1_of (v := .int .i64 o) hg1 rfl ?_
  simp only [C.ite_true, C.ite_false, C.pick_true, C.pick_false, C.not_bool, C.field_ptr, C.nilCheck_ptr, C.add_mk, C.sub_mk, C.mul_mk, C.eql_mk, C.neq_mk, C.lss_mk, C.leq_mk, C.gtr_mk, C.geq_mk, C.conv_mk, C.len_mk, C.ext_0, C.ext_1, C.ext3_0, C.ext3_1, C.ext3_2, C.guarded_yes, C.guarded_tf, C.guarded_ft, C.guarded_undef, Bool.not_true, Bool.not_false, Nat.zero_add, eq_self, decide_true, decide_false]
  rw [wrap64_id (n := o + c) (by omega)]
  refine C.store1_of hg1 rfl rfl (by simp) fun w2 hu2 => ?_
  exact h w2 (hf1.w.trans hu2.fr) hu2.at_
theorem build95 (b : Bool) (m : Int) : (Instr.build 95 #[(1, .bool b), (2, .int .i64 m)]).run Try.prog w = .ok (.agg #[.int .i64 0, .int .i64 0, .int .i64 0, .bool b, .int .i64 m]) w := by kernel_rfl
theorem bank_New_c (n : Int) (h : ∀ g w', New w g (bk 0 0 0 true (clamp n 0 65535)) w' → K (.pointer (some ⟨g, 0, none⟩)) w') : C.call Try.prog 55 #[.int .i64 n] w K := by
  refine F55.sh (Clamp_c _ _ _ ⟨_, _, build95 _ _, ?_⟩)
  exact C.new_of h
theorem BkOk.new (n : Int) : BkOk 0 0 0 (clamp n 0 65535) := by
  have := clamp_bd n 0 65535 (by omega)
  exact ⟨by omega, by omega, by omega, by omega, by omega, by omega, by omega, by omega⟩
/-- A bank that holds, with what came, went and was lost at most so much. -/
structure BkIn (B i o l m : Int) : Prop extends BkOk i o l m where
  iB : i ≤ B
  lB : l ≤ B
end
end Go.Proofs.YtfhgjncbhjjbfaaV
