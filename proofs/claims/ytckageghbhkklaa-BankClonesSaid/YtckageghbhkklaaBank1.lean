/- The functions of package bank: what each call comes to. -/
import Derived.Test.YtckageghbhkklaaGBank
import Derived.Test.YtckageghbhkklaaVc5
namespace Go.Proofs.YtckageghbhkklaaV
open Go Go.Proofs
set_option linter.unusedVariables false
set_option linter.unusedSimpArgs false

/-- A bank in memory. -/
def bk (i o l : Int) (made : Bool) (m : Int) : Obj := .cells #[.int .i64 i, .int .i64 o, .int .i64 l, .bool made, .int .i64 m] 58 (0, 0)
def clamp (n lo hi : Int) : Int := if n < lo then lo else if n > hi then hi else n
theorem clamp_bd (n lo hi : Int) (h : lo ≤ hi) : lo ≤ clamp n lo hi ∧ clamp n lo hi ≤ hi := by unfold clamp; omega
section
variable {K : VK} {w : World}
theorem Clamp_c (n lo hi : Int) (h : K (.int .i64 (clamp n lo hi)) w) : C.call Try.prog 58 #[.int .i64 n, .int .i64 lo, .int .i64 hi] w K := by
  refine F58.sh ?_
  simp only [C.ite_true, C.ite_false, C.pick_true, C.pick_false, C.not_bool, C.field_ptr, C.nilCheck_ptr, C.add_mk, C.sub_mk, C.mul_mk, C.eql_mk, C.neq_mk, C.lss_mk, C.leq_mk, C.gtr_mk, C.geq_mk, C.conv_mk, C.len_mk, C.ext_0, C.ext_1, C.ext3_0, C.ext3_1, C.ext3_2, C.guarded_yes, C.guarded_tf, C.guarded_ft, C.guarded_undef, Bool.not_true, Bool.not_false, Nat.zero_add, eq_self, decide_true, decide_false, C.ite_bool, decide_eq_true_eq, decide_eq_false_iff_not]
  unfold clamp at h
  refine ⟨fun h1 => by rwa [if_pos h1] at h, fun h1 => ?_⟩
  rw [if_neg h1] at h
  refine ⟨fun h2 => by rwa [if_pos h2] at h, fun h2 => ?_⟩
  rw [if_neg h2] at h
  exact F58.k5.to h
theorem Near_c (n lo hi : Int) (h : K (.int .i64 (clamp n lo hi)) w) : C.call Try.prog 17 #[.int .i64 n, .int .i64 lo, .int .i64 hi] w K := by
  refine F17.sh ?_
  simp only [C.ite_true, C.ite_false, C.pick_true, C.pick_false, C.not_bool, C.field_ptr, C.nilCheck_ptr, C.add_mk, C.sub_mk, C.mul_mk, C.eql_mk, C.neq_mk, C.lss_mk, C.leq_mk, C.gtr_mk, C.geq_mk, C.conv_mk, C.len_mk, C.ext_0, C.ext_1, C.ext3_0, C.ext3_1, C.ext3_2, C.guarded_yes, C.guarded_tf, C.guarded_ft, C.guarded_undef, Bool.not_true, Bool.not_false, Nat.zero_add, eq_self, decide_true, decide_false, C.ite_bool, decide_eq_true_eq, decide_eq_false_iff_not]
  unfold clamp at h
  refine ⟨fun h1 => by rwa [if_pos h1] at h, fun h1 => ?_⟩
  rw [if_neg h1] at h
  refine F17.k3.to ?_
  simp only [C.ite_true, C.ite_false, C.pick_true, C.pick_false, C.not_bool, C.field_ptr, C.nilCheck_ptr, C.add_mk, C.sub_mk, C.mul_mk, C.eql_mk, C.neq_mk, C.lss_mk, C.leq_mk, C.gtr_mk, C.geq_mk, C.conv_mk, C.len_mk, C.ext_0, C.ext_1, C.ext3_0, C.ext3_1, C.ext3_2, C.guarded_yes, C.guarded_tf, C.guarded_ft, C.guarded_undef, Bool.not_true, Bool.not_false, Nat.zero_add, eq_self, decide_true, decide_false, C.ite_bool, decide_eq_true_eq, decide_eq_false_iff_not]
  refine ⟨fun h2 => by rwa [if_pos h2] at h, fun h2 => ?_⟩
  rw [if_neg h2] at h
  exact F17.k5.to h
theorem is_c {g : Nat} {i o l m : Int} {made : Bool} (hg : w.heap[g]? = some (bk i o l made m)) (h : K (.bool made) w) : C.call Try.prog 59 #[.pointer (some ⟨g, 0, none⟩)] w K := by
  refine F59.sh ?_
  refine ⟨_, neq_ptr_nil _ _ _ Try.underlying28, ?_⟩
  simp only [C.ite_true, C.ite_false, C.pick_true, C.pick_false, C.not_bool, C.field_ptr, C.nilCheck_ptr, C.add_mk, C.sub_mk, C.mul_mk, C.eql_mk, C.neq_mk, C.lss_mk, C.leq_mk, C.gtr_mk, C.geq_mk, C.conv_mk, C.len_mk, C.ext_0, C.ext_1, C.ext3_0, C.ext3_1, C.ext3_2, C.guarded_yes, C.guarded_tf, C.guarded_ft, C.guarded_undef, Bool.not_true, Bool.not_false, Nat.zero_add, eq_self, decide_true, decide_false]
  refine C.load1_of (v := .bool made) hg rfl ?_
  simpa only [C.ite_true, C.ite_false, C.pick_true, C.pick_false, C.not_bool, C.field_ptr, C.nilCheck_ptr, C.add_mk, C.sub_mk, C.mul_mk, C.eql_mk, C.neq_mk, C.lss_mk, C.leq_mk, C.gtr_mk, C.geq_mk, C.conv_mk, C.len_mk, C.ext_0, C.ext_1, C.ext3_0, C.ext3_1, C.ext3_2, C.guarded_yes, C.guarded_tf, C.guarded_ft, C.guarded_undef, Bool.not_true, Bool.not_false, Nat.zero_add, eq_self, decide_true, decide_false] using h
theorem is_nil (h : K (.bool false) w) : C.call Try.prog 59 #[.pointer none] w K := by
  refine F59.sh ?_
  refine ⟨_, neq_nil_nil _ _ Try.underlying28, ?_⟩
  simp only [C.ite_true, C.ite_false, C.pick_true, C.pick_false, C.not_bool, C.field_ptr, C.nilCheck_ptr, C.add_mk, C.sub_mk, C.mul_mk, C.eql_mk, C.neq_mk, C.lss_mk, C.leq_mk, C.gtr_mk, C.geq_mk, C.conv_mk, C.len_mk, C.ext_0, C.ext_1, C.ext3_0, C.ext3_1, C.ext3_2, C.guarded_yes, C.guarded_tf, C.guarded_ft, C.guarded_undef, Bool.not_true, Bool.not_false, Nat.zero_add, eq_self, decide_true, decide_false]
  exact h
theorem fl_balance {g : Nat} {i o l m : Int} {made : Bool} (hg : w.heap[g]? = some (bk i o l made m)) (h : ∀ w', Fr [] w w' → w'.heap = w.heap → K (.int .i64 (IntKind.i64.wrap (i - o))) w') :
    C.call Try.prog 61 #[.pointer (some ⟨g, 0, none⟩)] w K := by
  refine F61.sh (C.draw_of (fun w' => w'.heap[g]? = some (bk i o l made m)) fun w1 hf he => ⟨by rw [he]; exact hg, ?_⟩)
  simp only [C.ite_true, C.ite_false, C.pick_true, C.pick_false, C.not_bool, C.field_ptr, C.nilCheck_ptr, C.add_mk, C.sub_mk, C.mul_mk, C.eql_mk, C.neq_mk, C.lss_mk, C.leq_mk, C.gtr_mk, C.geq_mk, C.conv_mk, C.len_mk, C.ext_0, C.ext_1, C.ext3_0, C.ext3_1, C.ext3_2, C.guarded_yes, C.guarded_tf, C.guarded_ft, C.guarded_undef, Bool.not_true, Bool.not_false, Nat.zero_add, eq_self, decide_true, decide_false]
  refine C.load1S_of (v := .int .i64 i) (fun w' hw => ⟨_, _, _, hw, rfl⟩) (C.load1S_of (v := .int .i64 o) (fun w' hw => ⟨_, _, _, hw, rfl⟩) ?_)
  simp only [C.ite_true, C.ite_false, C.pick_true, C.pick_false, C.not_bool, C.field_ptr, C.nilCheck_ptr, C.add_mk, C.sub_mk, C.mul_mk, C.eql_mk, C.neq_mk, C.lss_mk, C.leq_mk, C.gtr_mk, C.geq_mk, C.conv_mk, C.len_mk, C.ext_0, C.ext_1, C.ext3_0, C.ext3_1, C.ext3_2, C.guarded_yes, C.guarded_tf, C.guarded_ft, C.guarded_undef, Bool.not_true, Bool.not_false, Nat.zero_add, eq_self, decide_true, decide_false]
  exact h w1 hf he
theorem own_c {g : Nat} {i o l m : Int} (hg : w.heap[g]? = some (bk i o l true m)) (h : K (.pointer (some ⟨g, 0, none⟩)) w) : C.call Try.prog 60 #[.pointer (some ⟨g, 0, none⟩)] w K := by
  refine F60.sh (is_c hg ?_)
  simp only [C.ite_true, C.ite_false, C.pick_true, C.pick_false, C.not_bool, C.field_ptr, C.nilCheck_ptr, C.add_mk, C.sub_mk, C.mul_mk, C.eql_mk, C.neq_mk, C.lss_mk, C.leq_mk, C.gtr_mk, C.geq_mk, C.conv_mk, C.len_mk, C.ext_0, C.ext_1, C.ext3_0, C.ext3_1, C.ext3_2, C.guarded_yes, C.guarded_tf, C.guarded_ft, C.guarded_undef, Bool.not_true, Bool.not_false, Nat.zero_add, eq_self, decide_true, decide_false]
  refine F60.k3.to ?_
  simp only [C.ite_true, C.ite_false, C.pick_true, C.pick_false, C.not_bool, C.field_ptr, C.nilCheck_ptr, C.add_mk, C.sub_mk, C.mul_mk, C.eql_mk, C.neq_mk, C.lss_mk, C.leq_mk, C.gtr_mk, C.geq_mk, C.conv_mk, C.len_mk, C.ext_0, C.ext_1, C.ext3_0, C.ext3_1, C.ext3_2, C.guarded_yes, C.guarded_tf, C.guarded_ft, C.guarded_undef, Bool.not_true, Bool.not_false, Nat.zero_add, eq_self, decide_true, decide_false]
  exact h
theorem Balance_c {g : Nat} {i o l m : Int} (hg : w.heap[g]? = some (bk i o l true m)) (h : ∀ w', Fr [] w w' → w'.heap = w.heap → K (.int .i64 (IntKind.i64.wrap (i - o))) w') :
    C.call Try.prog 22 #[.pointer (some ⟨g, 0, none⟩)] w K := F22.sh (own_c hg (fl_balance hg h))
theorem In_c {g : Nat} {i o l m : Int} (hg : w.heap[g]? = some (bk i o l true m)) (h : K (.int .i64 i) w) : C.call Try.prog 23 #[.pointer (some ⟨g, 0, none⟩)] w K := by
  refine F23.sh (own_c hg (F62.sh ?_))
  simp only [C.ite_true, C.ite_false, C.pick_true, C.pick_false, C.not_bool, C.field_ptr, C.nilCheck_ptr, C.add_mk, C.sub_mk, C.mul_mk, C.eql_mk, C.neq_mk, C.lss_mk, C.leq_mk, C.gtr_mk, C.geq_mk, C.conv_mk, C.len_mk, C.ext_0, C.ext_1, C.ext3_0, C.ext3_1, C.ext3_2, C.guarded_yes, C.guarded_tf, C.guarded_ft, C.guarded_undef, Bool.not_true, Bool.not_false, Nat.zero_add, eq_self, decide_true, decide_false]
  exact C.load1_of (v := .int .i64 i) hg rfl h
theorem Out_c {g : Nat} {i o l m : Int} (hg : w.heap[g]? = some (bk i o l true m)) (h : K (.int .i64 o) w) : C.call Try.prog 24 #[.pointer (some ⟨g, 0, none⟩)] w K := by
  refine F24.sh (own_c hg (F63.sh ?_))
  simp only [C.ite_true, C.ite_false, C.pick_true, C.pick_false, C.not_bool, C.field_ptr, C.nilCheck_ptr, C.add_mk, C.sub_mk, C.mul_mk, C.eql_mk, C.neq_mk, C.lss_mk, C.leq_mk, C.gtr_mk, C.geq_mk, C.conv_mk, C.len_mk, C.ext_0, C.ext_1, C.ext3_0, C.ext3_1, C.ext3_2, C.guarded_yes, C.guarded_tf, C.guarded_ft, C.guarded_undef, Bool.not_true, Bool.not_false, Nat.zero_add, eq_self, decide_true, decide_false]
  exact C.load1_of (v := .int .i64 o) hg rfl h
theorem Lost_c {g : Nat} {i o l m : Int} (hg : w.heap[g]? = some (bk i o l true m)) (h : K (.int .i64 l) w) : C.call Try.prog 25 #[.pointer (some ⟨g, 0, none⟩)] w K := by
  refine F25.sh (own_c hg (F64.sh ?_))
  simp only [C.ite_true, C.ite_false, C.pick_true, C.pick_false, C.not_bool, C.field_ptr, C.nilCheck_ptr, C.add_mk, C.sub_mk, C.mul_mk, C.eql_mk, C.neq_mk, C.lss_mk, C.leq_mk, C.gtr_mk, C.geq_mk, C.conv_mk, C.len_mk, C.ext_0, C.ext_1, C.ext3_0, C.ext3_1, C.ext3_2, C.guarded_yes, C.guarded_tf, C.guarded_ft, C.guarded_undef, Bool.not_true, Bool.not_false, Nat.zero_add, eq_self, decide_true, decide_false]
  exact C.load1_of (v := .int .i64 l) hg rfl h
/-- What may be of a bank. -/
structure BkOk (i o l m : Int) : Prop where
  m1 : m ≤ 65535
  b0 : 0 ≤ i - o
  b1 : i - o ≤ m
  i0 : 0 ≤ i
  o0 : 0 ≤ o
  l0 : 0 ≤ l
  i1 : i ≤ 1152921504606846976
  l1 : l ≤ 1152921504606846976
theorem Put_c {g : Nat} {i o l m : Int} (n : Int) (hg : w.heap[g]? = some (bk i o l true m)) (hk : BkOk i o l m)
    (h : ∀ w', Fr [g] w w' → w'.heap[g]? = some (bk (i + min (clamp n 0 2147483648) (m - (i - o))) o (l + (clamp n 0 2147483648 - min (clamp n 0 2147483648) (m - (i - o)))) true m) → K (.int .i64 (min (clamp n 0 2147483648) (m - (i - o)))) w') :
    C.call Try.prog 19 #[.pointer (some ⟨g, 0, none⟩), .int .i64 n] w K := by
  obtain ⟨h1, h2, h3, h4, h5, h6, h7, h8⟩ := hk
  refine F19.sh (is_c hg ?_)
  simp only [C.ite_true, C.ite_false, C.pick_true, C.pick_false, C.not_bool, C.field_ptr, C.nilCheck_ptr, C.add_mk, C.sub_mk, C.mul_mk, C.eql_mk, C.neq_mk, C.lss_mk, C.leq_mk, C.gtr_mk, C.geq_mk, C.conv_mk, C.len_mk, C.ext_0, C.ext_1, C.ext3_0, C.ext3_1, C.ext3_2, C.guarded_yes, C.guarded_tf, C.guarded_ft, C.guarded_undef, Bool.not_true, Bool.not_false, Nat.zero_add, eq_self, decide_true, decide_false]
  refine F19.k3.to (Clamp_c _ _ _ ?_)
  have hc := clamp_bd n 0 2147483648 (by omega)
  generalize clamp n 0 2147483648 = c at *
  refine C.draw_of (fun w' => w'.heap[g]? = some (bk i o l true m)) fun w1 hf1 he1 => ⟨by rw [he1]; exact hg, ?_⟩
  have hg1 : w1.heap[g]? = some (bk i o l true m) := by rw [he1]; exact hg
  simp only [C.ite_true, C.ite_false, C.pick_true, C.pick_false, C.not_bool, C.field_ptr, C.nilCheck_ptr, C.add_mk, C.sub_mk, C.mul_mk, C.eql_mk, C.neq_mk, C.lss_mk, C.leq_mk, C.gtr_mk, C.geq_mk, C.conv_mk, C.len_mk, C.ext_0, C.ext_1, C.ext3_0, C.ext3_1, C.ext3_2, C.guarded_yes, C.guarded_tf, C.guarded_ft, C.guarded_undef, Bool.not_true, Bool.not_false, Nat.zero_add, eq_self, decide_true, decide_false]
  refine C.load1S_of (v := .int .i64 m) (fun w' hw => ⟨_, _, _, hw, rfl⟩) ⟨Balance_c hg1 fun w2 hf2 he2 => ?_, trivial⟩
  have hg2 : w2.heap[g]? = some (bk i o l true m) := by rw [he2]; exact hg1
  refine ⟨hg2, ?_⟩
  rw [wrap64_id (n := i - o) (by omega)]
  simp only [C.ite_true, C.ite_false, C.pick_true, C.pick_false, C.not_bool, C.field_ptr, C.nilCheck_ptr, C.add_mk, C.sub_mk, C.mul_mk, C.eql_mk, C.neq_mk, C.lss_mk, C.leq_mk, C.gtr_mk, C.geq_mk, C.conv_mk, C.len_mk, C.ext_0, C.ext_1, C.ext3_0, C.ext3_1, C.ext3_2, C.guarded_yes, C.guarded_tf, C.guarded_ft, C.guarded_undef, Bool.not_true, Bool.not_false, Nat.zero_add, eq_self, decide_true, decide_false]
  rw [wrap64_id (n := m - (i - o)) (by omega)]
  generalize hq : min c (m - (i - o)) = q at *
  refine ⟨_, fun w' _ => min2_runb _ _ _ _ _ _, ?_⟩
  rw [hq]
  refine C.load1_of (v := .int .i64 i) hg2 rfl ?_
  simp only [C.ite_true, C.ite_false, C.pick_true, C.pick_false, C.not_bool, C.field_ptr, C.nilCheck_ptr, C.add_mk, C.sub_mk, C.mul_mk, C.eql_mk, C.neq_mk, C.lss_mk, C.leq_mk, C.gtr_mk, C.geq_mk, C.conv_mk, C.len_mk, C.ext_0, C.ext_1, C.ext3_0, C.ext3_1, C.ext3_2, C.guarded_yes, C.guarded_tf, C.guarded_ft, C.guarded_undef, Bool.not_true, Bool.not_false, Nat.zero_add, eq_self, decide_true, decide_false]
  rw [wrap64_id (n := i + q) (by omega)]
  refine C.store1_of hg2 rfl rfl (by simp) fun w3 hu3 => ?_
  refine C.load1_of (v := .int .i64 l) hu3.at_ rfl ?_
  simp only [C.ite_true, C.ite_false, C.pick_true, C.pick_false, C.not_bool, C.field_ptr, C.nilCheck_ptr, C.add_mk, C.sub_mk, C.mul_mk, C.eql_mk, C.neq_mk, C.lss_mk, C.leq_mk, C.gtr_mk, C.geq_mk, C.conv_mk, C.len_mk, C.ext_0, C.ext_1, C.ext3_0, C.ext3_1, C.ext3_2, C.guarded_yes, C.guarded_tf, C.guarded_ft, C.guarded_undef, Bool.not_true, Bool.not_false, Nat.zero_add, eq_self, decide_true, decide_false]
  rw [wrap64_id (n := c - q) (by omega), wrap64_id (n := l + (c - q)) (by omega)]
  refine C.store1_of hu3.at_ rfl rfl (by simp) fun w4 hu4 => ?_
  refine h w4 ?_ hu4.at_
  exact (hf1.w.trans hf2.w).trans (hu3.fr.trans hu4.fr)
theorem Spend_c {g : Nat} {i o l m : Int} (n : Int) (hg : w.heap[g]? = some (bk i o l true m)) (hk : BkOk i o l m)
    (h : ∀ w', Fr [g] w w' → w'.heap[g]? = some (bk i (o + clamp n 0 (i - o)) l true m) → K (.int .i64 (clamp n 0 (i - o))) w') :
    C.call Try.prog 21 #[.pointer (some ⟨g, 0, none⟩), .int .i64 n] w K := by
  obtain ⟨h1, h2, h3, h4, h5, h6, h7, h8⟩ := hk
  refine F21.sh (is_c hg ?_)
  simp only [C.ite_true, C.ite_false, C.pick_true, C.pick_false, C.not_bool, C.field_ptr, C.nilCheck_ptr, C.add_mk, C.sub_mk, C.mul_mk, C.eql_mk, C.neq_mk, C.lss_mk, C.leq_mk, C.gtr_mk, C.geq_mk, C.conv_mk, C.len_mk, C.ext_0, C.ext_1, C.ext3_0, C.ext3_1, C.ext3_2, C.guarded_yes, C.guarded_tf, C.guarded_ft, C.guarded_undef, Bool.not_true, Bool.not_false, Nat.zero_add, eq_self, decide_true, decide_false]
  refine F21.k3.to (Balance_c hg fun w1 hf1 he1 => ?_)
  rw [wrap64_id (n := i - o) (by omega)]
  refine Clamp_c _ _ _ ?_
  have hc := clamp_bd n 0 (i - o) (by omega)
  generalize clamp n 0 (i - o) = c at *
  have hg1 : w1.heap[g]? = some (bk i o l true m) := by rw [he1]; exact hg
  simp only [C.ite_true, C.ite_false, C.pick_true, C.pick_false, C.not_bool, C.field_ptr, C.nilCheck_ptr, C.add_mk, C.sub_mk, C.mul_mk, C.eql_mk, C.neq_mk, C.lss_mk, C.leq_mk, C.gtr_mk, C.geq_mk, C.conv_mk, C.len_mk, C.ext_0, C.ext_1, C.ext3_0, C.ext3_1, C.ext3_2, C.guarded_yes, C.guarded_tf, C.guarded_ft, C.guarded_undef, Bool.not_true, Bool.not_false, Nat.zero_add, eq_self, decide_true, decide_false]
  refine C.load1_of (v := .int .i64 o) hg1 rfl ?_
  simp only [C.ite_true, C.ite_false, C.pick_true, C.pick_false, C.not_bool, C.field_ptr, C.nilCheck_ptr, C.add_mk, C.sub_mk, C.mul_mk, C.eql_mk, C.neq_mk, C.lss_mk, C.leq_mk, C.gtr_mk, C.geq_mk, C.conv_mk, C.len_mk, C.ext_0, C.ext_1, C.ext3_0, C.ext3_1, C.ext3_2, C.guarded_yes, C.guarded_tf, C.guarded_ft, C.guarded_undef, Bool.not_true, Bool.not_false, Nat.zero_add, eq_self, decide_true, decide_false]
  rw [wrap64_id (n := o + c) (by omega)]
  refine C.store1_of hg1 rfl rfl (by simp) fun w2 hu2 => ?_
  exact h w2 (hf1.w.trans hu2.fr) hu2.at_
theorem Take_no {g : Nat} {i o l m : Int} (n : Int) (hg : w.heap[g]? = some (bk i o l true m)) (hk : BkOk i o l m) (hn : n < 0 ∨ n > i - o)
    (h : ∀ w', Fr [] w w' → w'.heap = w.heap → K (.bool false) w') : C.call Try.prog 20 #[.pointer (some ⟨g, 0, none⟩), .int .i64 n] w K := by
  obtain ⟨h1, h2, h3, h4, h5, h6, h7, h8⟩ := hk
  refine F20.sh (is_c hg ?_)
  simp only [C.ite_true, C.ite_false, C.pick_true, C.pick_false, C.not_bool, C.field_ptr, C.nilCheck_ptr, C.add_mk, C.sub_mk, C.mul_mk, C.eql_mk, C.neq_mk, C.lss_mk, C.leq_mk, C.gtr_mk, C.geq_mk, C.conv_mk, C.len_mk, C.ext_0, C.ext_1, C.ext3_0, C.ext3_1, C.ext3_2, C.guarded_yes, C.guarded_tf, C.guarded_ft, C.guarded_undef, Bool.not_true, Bool.not_false, Nat.zero_add, eq_self, decide_true, decide_false]
  by_cases hn0 : n < 0
  · simp only [hn0, decide_true, C.ite_true, C.ite_false, C.pick_true, C.pick_false, C.not_bool, C.field_ptr, C.nilCheck_ptr, C.add_mk, C.sub_mk, C.mul_mk, C.eql_mk, C.neq_mk, C.lss_mk, C.leq_mk, C.gtr_mk, C.geq_mk, C.conv_mk, C.len_mk, C.ext_0, C.ext_1, C.ext3_0, C.ext3_1, C.ext3_2, C.guarded_yes, C.guarded_tf, C.guarded_ft, C.guarded_undef, Bool.not_true, Bool.not_false, Nat.zero_add, eq_self, decide_true, decide_false]
    exact h w (Fr.refl _ _) rfl
  · simp only [hn0, decide_false, C.ite_true, C.ite_false, C.pick_true, C.pick_false, C.not_bool, C.field_ptr, C.nilCheck_ptr, C.add_mk, C.sub_mk, C.mul_mk, C.eql_mk, C.neq_mk, C.lss_mk, C.leq_mk, C.gtr_mk, C.geq_mk, C.conv_mk, C.len_mk, C.ext_0, C.ext_1, C.ext3_0, C.ext3_1, C.ext3_2, C.guarded_yes, C.guarded_tf, C.guarded_ft, C.guarded_undef, Bool.not_true, Bool.not_false, Nat.zero_add, eq_self, decide_true, decide_false]
    refine Balance_c hg fun w1 hf1 he1 => ?_
    rw [wrap64_id (n := i - o) (by omega)]
    have : n > i - o := by omega
    simp only [this, decide_true, C.ite_true, C.ite_false, C.pick_true, C.pick_false, C.not_bool, C.field_ptr, C.nilCheck_ptr, C.add_mk, C.sub_mk, C.mul_mk, C.eql_mk, C.neq_mk, C.lss_mk, C.leq_mk, C.gtr_mk, C.geq_mk, C.conv_mk, C.len_mk, C.ext_0, C.ext_1, C.ext3_0, C.ext3_1, C.ext3_2, C.guarded_yes, C.guarded_tf, C.guarded_ft, C.guarded_undef, Bool.not_true, Bool.not_false, Nat.zero_add, eq_self, decide_true, decide_false]
    exact h w1 hf1 he1
theorem Take_yes {g : Nat} {i o l m : Int} (n : Int) (hg : w.heap[g]? = some (bk i o l true m)) (hk : BkOk i o l m) (hn : 0 ≤ n ∧ n ≤ i - o)
    (h : ∀ w', Fr [g] w w' → w'.heap[g]? = some (bk i (o + n) l true m) → K (.bool true) w') : C.call Try.prog 20 #[.pointer (some ⟨g, 0, none⟩), .int .i64 n] w K := by
  have hk' := hk
  obtain ⟨h1, h2, h3, h4, h5, h6, h7, h8⟩ := hk
  refine F20.sh (is_c hg ?_)
  have e1 : ¬ n < 0 := by omega
  have e2 : ¬ n > i - o := by omega
  simp only [C.ite_true, C.ite_false, C.pick_true, C.pick_false, C.not_bool, C.field_ptr, C.nilCheck_ptr, C.add_mk, C.sub_mk, C.mul_mk, C.eql_mk, C.neq_mk, C.lss_mk, C.leq_mk, C.gtr_mk, C.geq_mk, C.conv_mk, C.len_mk, C.ext_0, C.ext_1, C.ext3_0, C.ext3_1, C.ext3_2, C.guarded_yes, C.guarded_tf, C.guarded_ft, C.guarded_undef, Bool.not_true, Bool.not_false, Nat.zero_add, eq_self, decide_true, decide_false, e1, decide_false]
  refine Balance_c hg fun w1 hf1 he1 => ?_
  rw [wrap64_id (n := i - o) (by omega)]
  simp only [C.ite_true, C.ite_false, C.pick_true, C.pick_false, C.not_bool, C.field_ptr, C.nilCheck_ptr, C.add_mk, C.sub_mk, C.mul_mk, C.eql_mk, C.neq_mk, C.lss_mk, C.leq_mk, C.gtr_mk, C.geq_mk, C.conv_mk, C.len_mk, C.ext_0, C.ext_1, C.ext3_0, C.ext3_1, C.ext3_2, C.guarded_yes, C.guarded_tf, C.guarded_ft, C.guarded_undef, Bool.not_true, Bool.not_false, Nat.zero_add, eq_self, decide_true, decide_false, e2, decide_false]
  refine F20.k3.to (Spend_c n (by rw [he1]; exact hg) hk' fun w2 hf2 hg2 => ?_)
  have e3 : clamp n 0 (i - o) = n := by unfold clamp; omega
  rw [e3] at hg2
  exact h w2 (hf1.w.trans hf2) hg2
theorem build58 (b : Bool) (m : Int) : (Instr.build 58 #[(1, .bool b), (2, .int .i64 m)]).run Try.prog w = .ok (.agg #[.int .i64 0, .int .i64 0, .int .i64 0, .bool b, .int .i64 m]) w := by kernel_rfl
theorem New_c (n : Int) (h : ∀ g w', New w g (bk 0 0 0 true (clamp n 0 65535)) w' → K (.pointer (some ⟨g, 0, none⟩)) w') : C.call Try.prog 16 #[.int .i64 n] w K := by
  refine F16.sh (Clamp_c _ _ _ ⟨_, _, build58 _ _, ?_⟩)
  exact C.new_of h
theorem BkOk.new (n : Int) : BkOk 0 0 0 (clamp n 0 65535) := by
  have := clamp_bd n 0 65535 (by omega)
  exact ⟨by omega, by omega, by omega, by omega, by omega, by omega, by omega, by omega⟩
/-- A bank that holds, with what came, went and was lost at most so much. -/
structure BkIn (B i o l m : Int) : Prop extends BkOk i o l m where
  iB : i ≤ B
  lB : l ≤ B
theorem Alive_c (h : ∀ w', Fr [] w w' → K (.bool true) w') : C.call Try.prog 14 #[] w K := by
  refine F14.sh (New_c _ fun g w1 hn => ?_)
  have e : clamp 5 0 65535 = 5 := by decide
  rw [e] at hn
  refine Put_c 7 hn.at_ ⟨by omega, by omega, by omega, by omega, by omega, by omega, by omega, by omega⟩ fun w2 hf2 hg2 => ?_
  have e : clamp 7 0 2147483648 = 7 := by decide
  simp only [e, show min (7 : Int) (5 - (0 - 0)) = 5 by decide, show (0 : Int) + 5 = 5 by decide, show (0 : Int) + (7 - 5) = 2 by decide] at hg2 ⊢
  refine Take_no 6 hg2 ⟨by omega, by omega, by omega, by omega, by omega, by omega, by omega, by omega⟩ (by omega) fun w3 hf3 he3 => ?_
  have hg3 := hg2
  rw [← he3] at hg3
  simp only [C.ite_true, C.ite_false, C.pick_true, C.pick_false, C.not_bool, C.field_ptr, C.nilCheck_ptr, C.add_mk, C.sub_mk, C.mul_mk, C.eql_mk, C.neq_mk, C.lss_mk, C.leq_mk, C.gtr_mk, C.geq_mk, C.conv_mk, C.len_mk, C.ext_0, C.ext_1, C.ext3_0, C.ext3_1, C.ext3_2, C.guarded_yes, C.guarded_tf, C.guarded_ft, C.guarded_undef, Bool.not_true, Bool.not_false, Nat.zero_add, eq_self, decide_true, decide_false, decide_true]
  refine Lost_c hg3 ?_
  simp only [C.ite_true, C.ite_false, C.pick_true, C.pick_false, C.not_bool, C.field_ptr, C.nilCheck_ptr, C.add_mk, C.sub_mk, C.mul_mk, C.eql_mk, C.neq_mk, C.lss_mk, C.leq_mk, C.gtr_mk, C.geq_mk, C.conv_mk, C.len_mk, C.ext_0, C.ext_1, C.ext3_0, C.ext3_1, C.ext3_2, C.guarded_yes, C.guarded_tf, C.guarded_ft, C.guarded_undef, Bool.not_true, Bool.not_false, Nat.zero_add, eq_self, decide_true, decide_false, decide_true]
  refine Spend_c 6 hg3 ⟨by omega, by omega, by omega, by omega, by omega, by omega, by omega, by omega⟩ fun w4 hf4 hg4 => ?_
  have e : clamp 6 0 (5 - 0) = 5 := by decide
  simp only [e, show (0 : Int) + 5 = 5 by decide] at hg4 ⊢
  simp only [C.ite_true, C.ite_false, C.pick_true, C.pick_false, C.not_bool, C.field_ptr, C.nilCheck_ptr, C.add_mk, C.sub_mk, C.mul_mk, C.eql_mk, C.neq_mk, C.lss_mk, C.leq_mk, C.gtr_mk, C.geq_mk, C.conv_mk, C.len_mk, C.ext_0, C.ext_1, C.ext3_0, C.ext3_1, C.ext3_2, C.guarded_yes, C.guarded_tf, C.guarded_ft, C.guarded_undef, Bool.not_true, Bool.not_false, Nat.zero_add, eq_self, decide_true, decide_false, decide_true]
  refine Balance_c hg4 fun w5 hf5 he5 => ?_
  have hg5 := hg4
  rw [← he5] at hg5
  simp only [C.ite_true, C.ite_false, C.pick_true, C.pick_false, C.not_bool, C.field_ptr, C.nilCheck_ptr, C.add_mk, C.sub_mk, C.mul_mk, C.eql_mk, C.neq_mk, C.lss_mk, C.leq_mk, C.gtr_mk, C.geq_mk, C.conv_mk, C.len_mk, C.ext_0, C.ext_1, C.ext3_0, C.ext3_1, C.ext3_2, C.guarded_yes, C.guarded_tf, C.guarded_ft, C.guarded_undef, Bool.not_true, Bool.not_false, Nat.zero_add, eq_self, decide_true, decide_false, show IntKind.i64.wrap (5 - 5) = 0 by decide, decide_true]
  refine In_c hg5 ?_
  simp only [C.ite_true, C.ite_false, C.pick_true, C.pick_false, C.not_bool, C.field_ptr, C.nilCheck_ptr, C.add_mk, C.sub_mk, C.mul_mk, C.eql_mk, C.neq_mk, C.lss_mk, C.leq_mk, C.gtr_mk, C.geq_mk, C.conv_mk, C.len_mk, C.ext_0, C.ext_1, C.ext3_0, C.ext3_1, C.ext3_2, C.guarded_yes, C.guarded_tf, C.guarded_ft, C.guarded_undef, Bool.not_true, Bool.not_false, Nat.zero_add, eq_self, decide_true, decide_false, decide_true]
  refine Out_c hg5 ?_
  simp only [C.ite_true, C.ite_false, C.pick_true, C.pick_false, C.not_bool, C.field_ptr, C.nilCheck_ptr, C.add_mk, C.sub_mk, C.mul_mk, C.eql_mk, C.neq_mk, C.lss_mk, C.leq_mk, C.gtr_mk, C.geq_mk, C.conv_mk, C.len_mk, C.ext_0, C.ext_1, C.ext3_0, C.ext3_1, C.ext3_2, C.guarded_yes, C.guarded_tf, C.guarded_ft, C.guarded_undef, Bool.not_true, Bool.not_false, Nat.zero_add, eq_self, decide_true, decide_false, decide_true]
  refine h w5 ?_
  have hlt : w.heap.size ≤ g := by have := hn.is; omega
  exact hn.fr.then ((hf2.trans hf3.w).trans (hf4.trans hf5.w)) (by simp; exact hlt)
end
end Go.Proofs.YtckageghbhkklaaV
