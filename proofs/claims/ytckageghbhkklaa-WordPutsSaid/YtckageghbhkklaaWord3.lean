/- WordReads: the value whose word any number is, and the address, are as the page says. WordBack: values come back from their words, words from their values, and no two values have one word. For all values and words, no condition. -/
import Derived.Test.YtckageghbhkklaaWord2
namespace Go.Proofs.YtckageghbhkklaaV
open Go Go.Proofs
set_option linter.unusedVariables false
set_option linter.unusedSimpArgs false
section
variable {K : VK} {w : World}
theorem beq4 (x y : Operand) (a b : Bool) : (do eqGuard .eql 4 x y (.bool a) (.bool b); binOp .eql 4 (.bool a) (.bool b) : Sem Value).run Try.prog w = .ok (.bool (a == b)) w := eq_bool x y a b Try.underlying4
theorem bneq4 (x y : Operand) (a b : Bool) : (do eqGuard .neq 4 x y (.bool a) (.bool b); binOp .neq 4 (.bool a) (.bool b) : Sem Value).run Try.prog w = .ok (.bool (!(a == b))) w := neq_bool x y a b Try.underlying4
theorem WordReads_c (a : Int) (ha : -9223372036854775808 ≤ a ∧ a ≤ 9223372036854775807) (h : ∀ w', Fr [] w w' → K (.bool true) w') : C.call Try.prog 6 #[.int .i64 a] w K := by
  refine F6.sh (WAlive_c fun w1 hf1 => ?_)
  try simp only [C.ite_true, C.ite_false, C.pick_true, C.pick_false, C.not_bool, C.field_ptr, C.nilCheck_ptr, C.add_mk, C.sub_mk, C.mul_mk, C.eql_mk, C.neq_mk, C.lss_mk, C.leq_mk, C.gtr_mk, C.geq_mk, C.conv_mk, C.len_mk, C.ext_0, C.ext_1, C.ext3_0, C.ext3_1, C.ext3_2, C.guarded_yes, C.guarded_tf, C.guarded_ft, C.guarded_undef, Bool.not_true, Bool.not_false, Nat.zero_add, eq_self, decide_true, decide_false]
  have key : ∀ (k n : Int) (b : Bool), (∀ {K' : VK} {w : World}, (∀ w', Fr [] w w' → K' (.tuple #[V k n, .bool b]) w') → C.call Try.prog 31 #[.int .i64 a] w K') →
      (∀ {K' : VK} {w : World}, (∀ w', Fr [] w w' → K' (.tuple #[V k n, .bool b]) w') → C.call Try.prog 32 #[.int .i64 a] w K') →
      (∀ {K' : VK} {w : World}, (∀ w', Fr [] w w' → K' (.tuple #[.int .i64 (if b = true ∧ k = 2 then n else 0), .bool (decide (b = true ∧ k = 2))]) w') → C.call Try.prog 33 #[.int .i64 a] w K') → F6.k3 K (.int .i64 a) w1 := by
    intro k n b c1 c2 c3
    refine F6.k3.to (c1 fun w2 hf2 => ?_)
    try simp only [C.ite_true, C.ite_false, C.pick_true, C.pick_false, C.not_bool, C.field_ptr, C.nilCheck_ptr, C.add_mk, C.sub_mk, C.mul_mk, C.eql_mk, C.neq_mk, C.lss_mk, C.leq_mk, C.gtr_mk, C.geq_mk, C.conv_mk, C.len_mk, C.ext_0, C.ext_1, C.ext3_0, C.ext3_1, C.ext3_2, C.guarded_yes, C.guarded_tf, C.guarded_ft, C.guarded_undef, Bool.not_true, Bool.not_false, Nat.zero_add, eq_self, decide_true, decide_false]
    refine C.new_of fun x w3 hn3 => C.store_all hn3.at_ rfl v2_cells rfl fun w4 hu4 => c2 fun w5 hf5 => ?_
    try simp only [C.ite_true, C.ite_false, C.pick_true, C.pick_false, C.not_bool, C.field_ptr, C.nilCheck_ptr, C.add_mk, C.sub_mk, C.mul_mk, C.eql_mk, C.neq_mk, C.lss_mk, C.leq_mk, C.gtr_mk, C.geq_mk, C.conv_mk, C.len_mk, C.ext_0, C.ext_1, C.ext3_0, C.ext3_1, C.ext3_2, C.guarded_yes, C.guarded_tf, C.guarded_ft, C.guarded_undef, Bool.not_true, Bool.not_false, Nat.zero_add, eq_self, decide_true, decide_false]
    refine C.new_of fun y w6 hn6 => C.store_all hn6.at_ rfl v2_cells rfl fun w7 hu7 => c3 fun w8 hf8 => ?_
    have lx : w.heap.size ≤ x := by have := hn3.is; have := hf1.size; have := hf2.size; omega
    have ly : w.heap.size ≤ y := by have := hn6.is; have := hf1.size; have := hf2.size; have := hn3.fr.size; have := hu4.fr.size; have := hf5.size; omega
    have hxy : x ≠ y := hn6.ne (hf5.lt (lt_of_at hu4.at_))
    have hx : w8.heap[x]? = some (vB k n) := hf8.at_ (hu7.fr.at_ (hn6.fr.at_ (hf5.at_ hu4.at_ (by simp)) (by simp)) (by simp; omega)) (by simp)
    have hy : w8.heap[y]? = some (vB k n) := hf8.at_ hu7.at_ (by simp)
    have hf : Fr [] w w8 := ((((((hf1.trans hf2).trans hn3.fr).then hu4.fr (by simp; omega)).trans hf5).trans hn6.fr).then hu7.fr (by simp; omega)).trans hf8
    try simp only [C.ite_true, C.ite_false, C.pick_true, C.pick_false, C.not_bool, C.field_ptr, C.nilCheck_ptr, C.add_mk, C.sub_mk, C.mul_mk, C.eql_mk, C.neq_mk, C.lss_mk, C.leq_mk, C.gtr_mk, C.geq_mk, C.conv_mk, C.len_mk, C.ext_0, C.ext_1, C.ext3_0, C.ext3_1, C.ext3_2, C.guarded_yes, C.guarded_tf, C.guarded_ft, C.guarded_undef, Bool.not_true, Bool.not_false, Nat.zero_add, eq_self, decide_true, decide_false]
    cases b with
    | true =>
      simp only [C.ite_true, C.ite_false, C.pick_true, C.pick_false, C.not_bool, C.field_ptr, C.nilCheck_ptr, C.add_mk, C.sub_mk, C.mul_mk, C.eql_mk, C.neq_mk, C.lss_mk, C.leq_mk, C.gtr_mk, C.geq_mk, C.conv_mk, C.len_mk, C.ext_0, C.ext_1, C.ext3_0, C.ext3_1, C.ext3_2, C.guarded_yes, C.guarded_tf, C.guarded_ft, C.guarded_undef, Bool.not_true, Bool.not_false, Nat.zero_add, eq_self, decide_true, decide_false, true_and]
      refine C.load1_of (v := .int .i64 k) hy rfl ?_
      try simp only [C.ite_true, C.ite_false, C.pick_true, C.pick_false, C.not_bool, C.field_ptr, C.nilCheck_ptr, C.add_mk, C.sub_mk, C.mul_mk, C.eql_mk, C.neq_mk, C.lss_mk, C.leq_mk, C.gtr_mk, C.geq_mk, C.conv_mk, C.len_mk, C.ext_0, C.ext_1, C.ext3_0, C.ext3_1, C.ext3_2, C.guarded_yes, C.guarded_tf, C.guarded_ft, C.guarded_undef, Bool.not_true, Bool.not_false, Nat.zero_add, eq_self, decide_true, decide_false]
      refine C.loadA_all hx rfl (C.loadA_all hy rfl ⟨_, veq _ _ _ _ _ _, ?_⟩)
      simp only [C.ite_true, C.ite_false, C.pick_true, C.pick_false, C.not_bool, C.field_ptr, C.nilCheck_ptr, C.add_mk, C.sub_mk, C.mul_mk, C.eql_mk, C.neq_mk, C.lss_mk, C.leq_mk, C.gtr_mk, C.geq_mk, C.conv_mk, C.len_mk, C.ext_0, C.ext_1, C.ext3_0, C.ext3_1, C.ext3_2, C.guarded_yes, C.guarded_tf, C.guarded_ft, C.guarded_undef, Bool.not_true, Bool.not_false, Nat.zero_add, eq_self, decide_true, decide_false, and_self]
      refine ⟨_, beq4 _ _ _ _, ?_⟩
      simp only [C.ite_true, C.ite_false, C.pick_true, C.pick_false, C.not_bool, C.field_ptr, C.nilCheck_ptr, C.add_mk, C.sub_mk, C.mul_mk, C.eql_mk, C.neq_mk, C.lss_mk, C.leq_mk, C.gtr_mk, C.geq_mk, C.conv_mk, C.len_mk, C.ext_0, C.ext_1, C.ext3_0, C.ext3_1, C.ext3_2, C.guarded_yes, C.guarded_tf, C.guarded_ft, C.guarded_undef, Bool.not_true, Bool.not_false, Nat.zero_add, eq_self, decide_true, decide_false, beq_self_eq_true]
      refine ⟨_, beq4 _ _ _ _, ?_⟩
      simp only [C.ite_true, C.ite_false, C.pick_true, C.pick_false, C.not_bool, C.field_ptr, C.nilCheck_ptr, C.add_mk, C.sub_mk, C.mul_mk, C.eql_mk, C.neq_mk, C.lss_mk, C.leq_mk, C.gtr_mk, C.geq_mk, C.conv_mk, C.len_mk, C.ext_0, C.ext_1, C.ext3_0, C.ext3_1, C.ext3_2, C.guarded_yes, C.guarded_tf, C.guarded_ft, C.guarded_undef, Bool.not_true, Bool.not_false, Nat.zero_add, eq_self, decide_true, decide_false, beq_self_eq_true]
      by_cases k2 : k = 2
      · simp only [C.ite_true, C.ite_false, C.pick_true, C.pick_false, C.not_bool, C.field_ptr, C.nilCheck_ptr, C.add_mk, C.sub_mk, C.mul_mk, C.eql_mk, C.neq_mk, C.lss_mk, C.leq_mk, C.gtr_mk, C.geq_mk, C.conv_mk, C.len_mk, C.ext_0, C.ext_1, C.ext3_0, C.ext3_1, C.ext3_2, C.guarded_yes, C.guarded_tf, C.guarded_ft, C.guarded_undef, Bool.not_true, Bool.not_false, Nat.zero_add, eq_self, decide_true, decide_false, k2, if_true]
        refine C.load1_of (v := .int .i64 n) hy rfl ?_
        try simp only [C.ite_true, C.ite_false, C.pick_true, C.pick_false, C.not_bool, C.field_ptr, C.nilCheck_ptr, C.add_mk, C.sub_mk, C.mul_mk, C.eql_mk, C.neq_mk, C.lss_mk, C.leq_mk, C.gtr_mk, C.geq_mk, C.conv_mk, C.len_mk, C.ext_0, C.ext_1, C.ext3_0, C.ext3_1, C.ext3_2, C.guarded_yes, C.guarded_tf, C.guarded_ft, C.guarded_undef, Bool.not_true, Bool.not_false, Nat.zero_add, eq_self, decide_true, decide_false]
        exact h w8 hf
      · simp only [C.ite_true, C.ite_false, C.pick_true, C.pick_false, C.not_bool, C.field_ptr, C.nilCheck_ptr, C.add_mk, C.sub_mk, C.mul_mk, C.eql_mk, C.neq_mk, C.lss_mk, C.leq_mk, C.gtr_mk, C.geq_mk, C.conv_mk, C.len_mk, C.ext_0, C.ext_1, C.ext3_0, C.ext3_1, C.ext3_2, C.guarded_yes, C.guarded_tf, C.guarded_ft, C.guarded_undef, Bool.not_true, Bool.not_false, Nat.zero_add, eq_self, decide_true, decide_false, k2, if_false]
        exact h w8 hf
    | false =>
      simp only [C.ite_true, C.ite_false, C.pick_true, C.pick_false, C.not_bool, C.field_ptr, C.nilCheck_ptr, C.add_mk, C.sub_mk, C.mul_mk, C.eql_mk, C.neq_mk, C.lss_mk, C.leq_mk, C.gtr_mk, C.geq_mk, C.conv_mk, C.len_mk, C.ext_0, C.ext_1, C.ext3_0, C.ext3_1, C.ext3_2, C.guarded_yes, C.guarded_tf, C.guarded_ft, C.guarded_undef, Bool.not_true, Bool.not_false, Nat.zero_add, eq_self, decide_true, decide_false, false_and, Bool.false_eq_true, if_false]
      refine C.loadA_all hx rfl (C.loadA_all hy rfl ⟨_, veq _ _ _ _ _ _, ?_⟩)
      simp only [C.ite_true, C.ite_false, C.pick_true, C.pick_false, C.not_bool, C.field_ptr, C.nilCheck_ptr, C.add_mk, C.sub_mk, C.mul_mk, C.eql_mk, C.neq_mk, C.lss_mk, C.leq_mk, C.gtr_mk, C.geq_mk, C.conv_mk, C.len_mk, C.ext_0, C.ext_1, C.ext3_0, C.ext3_1, C.ext3_2, C.guarded_yes, C.guarded_tf, C.guarded_ft, C.guarded_undef, Bool.not_true, Bool.not_false, Nat.zero_add, eq_self, decide_true, decide_false, and_self]
      refine ⟨_, beq4 _ _ _ _, ?_⟩
      simp only [C.ite_true, C.ite_false, C.pick_true, C.pick_false, C.not_bool, C.field_ptr, C.nilCheck_ptr, C.add_mk, C.sub_mk, C.mul_mk, C.eql_mk, C.neq_mk, C.lss_mk, C.leq_mk, C.gtr_mk, C.geq_mk, C.conv_mk, C.len_mk, C.ext_0, C.ext_1, C.ext3_0, C.ext3_1, C.ext3_2, C.guarded_yes, C.guarded_tf, C.guarded_ft, C.guarded_undef, Bool.not_true, Bool.not_false, Nat.zero_add, eq_self, decide_true, decide_false, beq_self_eq_true]
      refine ⟨_, beq4 _ _ _ _, ?_⟩
      simp only [C.ite_true, C.ite_false, C.pick_true, C.pick_false, C.not_bool, C.field_ptr, C.nilCheck_ptr, C.add_mk, C.sub_mk, C.mul_mk, C.eql_mk, C.neq_mk, C.lss_mk, C.leq_mk, C.gtr_mk, C.geq_mk, C.conv_mk, C.len_mk, C.ext_0, C.ext_1, C.ext3_0, C.ext3_1, C.ext3_2, C.guarded_yes, C.guarded_tf, C.guarded_ft, C.guarded_undef, Bool.not_true, Bool.not_false, Nat.zero_add, eq_self, decide_true, decide_false, beq_self_eq_true]
      exact h w8 hf
  by_cases hc : chk (rdK a) (rdN a) = 0
  · refine key (rdK a) (rdN a) true (fun hk => Read_c a ha (fun _ => hk) (fun hn => absurd hc hn)) (fun hk => RefRead_c a ha (fun _ => hk) (fun hn => absurd hc hn)) (fun hk => Address_c a ha (fun h2 => ?_) (fun h2 => ?_))
    · intro w' hf'
      have := hk w' hf'
      simpa [h2.2] using this
    · intro w' hf'
      have k2 : ¬ rdK a = 2 := fun e => h2 ⟨hc, e⟩
      have := hk w' hf'
      simpa [k2] using this
  · refine key 0 0 false (fun hk => Read_c a ha (fun hn => absurd hn hc) (fun _ => hk)) (fun hk => RefRead_c a ha (fun hn => absurd hn hc) (fun _ => hk)) (fun hk => Address_c a ha (fun h2 => absurd h2.1 hc) (fun _ => ?_))
    intro w' hf'
    simpa using hk w' hf'
theorem back {k n : Int} (h : chk k n = 0) : rdK (putW k n) = k ∧ rdN (putW k n) = n ∧ -9223372036854775808 ≤ putW k n ∧ putW k n ≤ 9223372036854775807 := by
  rcases chk_kind h with ⟨rfl, rfl⟩ | ⟨rfl, h1, h2⟩ | ⟨rfl, h1, h2⟩
  · decide
  · have e : putW 1 n = 2 * n + 1 := rfl
    unfold rdK rdN
    rw [e, if_pos (by omega), if_pos (by omega)]
    omega
  · have e : putW 2 n = 2 * n + 2 := rfl
    unfold rdK rdN
    rw [e, if_neg (by omega), if_neg (by omega), if_neg (by omega), if_neg (by omega), tdiv2 _ (by omega)]
    omega
theorem forth {a : Int} (h : chk (rdK a) (rdN a) = 0) : putW (rdK a) (rdN a) = a := by
  unfold rdK rdN at *
  by_cases o : a % 2 = 1
  · simp only [if_pos o] at *
    unfold putW
    rw [if_neg (by decide), if_pos rfl]
    omega
  · simp only [if_neg o] at *
    by_cases z : a = 0
    · simp only [if_pos z] at *
      rw [z]; decide
    · simp only [if_neg z] at *
      unfold putW
      rw [if_pos rfl, tdiv2 a (by omega)]
      omega
/-- The last part: a word comes back. -/
theorem WB_last {a : Int} (ha : -9223372036854775808 ≤ a ∧ a ≤ 9223372036854775807) (h : ∀ w', Fr [] w w' → K (.bool true) w') : F7.k11 K (.int .i64 a) w := by
  by_cases hc : chk (rdK a) (rdN a) = 0
  · refine F7.k11.to (Read_c a ha (fun _ w1 hf1 => ?_) (fun hn => absurd hc hn))
    try simp only [C.ite_true, C.ite_false, C.pick_true, C.pick_false, C.not_bool, C.field_ptr, C.nilCheck_ptr, C.add_mk, C.sub_mk, C.mul_mk, C.eql_mk, C.neq_mk, C.lss_mk, C.leq_mk, C.gtr_mk, C.geq_mk, C.conv_mk, C.len_mk, C.ext_0, C.ext_1, C.ext3_0, C.ext3_1, C.ext3_2, C.guarded_yes, C.guarded_tf, C.guarded_ft, C.guarded_undef, Bool.not_true, Bool.not_false, Nat.zero_add, eq_self, decide_true, decide_false]
    refine C.new_of fun x w2 hn => C.store_all hn.at_ rfl v2_cells rfl fun w3 hu => C.loadA_all hu.at_ rfl (Put_yes _ _ hc fun w4 hf4 => ?_)
    have lx : w.heap.size ≤ x := by have := hn.is; have := hf1.size; omega
    simp only [C.ite_true, C.ite_false, C.pick_true, C.pick_false, C.not_bool, C.field_ptr, C.nilCheck_ptr, C.add_mk, C.sub_mk, C.mul_mk, C.eql_mk, C.neq_mk, C.lss_mk, C.leq_mk, C.gtr_mk, C.geq_mk, C.conv_mk, C.len_mk, C.ext_0, C.ext_1, C.ext3_0, C.ext3_1, C.ext3_2, C.guarded_yes, C.guarded_tf, C.guarded_ft, C.guarded_undef, Bool.not_true, Bool.not_false, Nat.zero_add, eq_self, decide_true, decide_false, forth hc]
    exact h w4 (((hf1.trans hn.fr).then hu.fr (by simp; omega)).trans hf4)
  · refine F7.k11.to (Read_c a ha (fun hn => absurd hn hc) (fun _ w1 hf1 => ?_))
    try simp only [C.ite_true, C.ite_false, C.pick_true, C.pick_false, C.not_bool, C.field_ptr, C.nilCheck_ptr, C.add_mk, C.sub_mk, C.mul_mk, C.eql_mk, C.neq_mk, C.lss_mk, C.leq_mk, C.gtr_mk, C.geq_mk, C.conv_mk, C.len_mk, C.ext_0, C.ext_1, C.ext3_0, C.ext3_1, C.ext3_2, C.guarded_yes, C.guarded_tf, C.guarded_ft, C.guarded_undef, Bool.not_true, Bool.not_false, Nat.zero_add, eq_self, decide_true, decide_false]
    refine C.new_of fun x w2 hn => C.store_all hn.at_ rfl v2_cells rfl fun w3 hu => C.loadA_all hu.at_ rfl (Put_yes 0 0 (by decide) fun w4 hf4 => ?_)
    have lx : w.heap.size ≤ x := by have := hn.is; have := hf1.size; omega
    try simp only [C.ite_true, C.ite_false, C.pick_true, C.pick_false, C.not_bool, C.field_ptr, C.nilCheck_ptr, C.add_mk, C.sub_mk, C.mul_mk, C.eql_mk, C.neq_mk, C.lss_mk, C.leq_mk, C.gtr_mk, C.geq_mk, C.conv_mk, C.len_mk, C.ext_0, C.ext_1, C.ext3_0, C.ext3_1, C.ext3_2, C.guarded_yes, C.guarded_tf, C.guarded_ft, C.guarded_undef, Bool.not_true, Bool.not_false, Nat.zero_add, eq_self, decide_true, decide_false]
    exact h w4 (((hf1.trans hn.fr).then hu.fr (by simp; omega)).trans hf4)
/-- The middle part: no two values have one word. -/
theorem WB_mid {a k n l m : Int} (ha : -9223372036854775808 ≤ a ∧ a ≤ 9223372036854775807) {x y : Nat} (hx : w.heap[x]? = some (vB k n)) (hy : w.heap[y]? = some (vB l m)) (h : ∀ w', Fr [] w w' → K (.bool true) w') {p q : Int} {b c : Bool}
    (hb : b = true → chk k n = 0 ∧ p = putW k n) (hc : c = true → chk l m = 0 ∧ q = putW l m) :
    F7.k9 K (.int .i64 a) (.pointer (some ⟨x, 0, none⟩)) (.pointer (some ⟨y, 0, none⟩)) (.int .i64 p) (.bool b) (.int .i64 q) (.bool c) w := by
  refine F7.k9.to ?_
  cases b with
  | false =>
    try simp only [C.ite_true, C.ite_false, C.pick_true, C.pick_false, C.not_bool, C.field_ptr, C.nilCheck_ptr, C.add_mk, C.sub_mk, C.mul_mk, C.eql_mk, C.neq_mk, C.lss_mk, C.leq_mk, C.gtr_mk, C.geq_mk, C.conv_mk, C.len_mk, C.ext_0, C.ext_1, C.ext3_0, C.ext3_1, C.ext3_2, C.guarded_yes, C.guarded_tf, C.guarded_ft, C.guarded_undef, Bool.not_true, Bool.not_false, Nat.zero_add, eq_self, decide_true, decide_false]
    exact WB_last ha h
  | true =>
    cases c with
    | false =>
      try simp only [C.ite_true, C.ite_false, C.pick_true, C.pick_false, C.not_bool, C.field_ptr, C.nilCheck_ptr, C.add_mk, C.sub_mk, C.mul_mk, C.eql_mk, C.neq_mk, C.lss_mk, C.leq_mk, C.gtr_mk, C.geq_mk, C.conv_mk, C.len_mk, C.ext_0, C.ext_1, C.ext3_0, C.ext3_1, C.ext3_2, C.guarded_yes, C.guarded_tf, C.guarded_ft, C.guarded_undef, Bool.not_true, Bool.not_false, Nat.zero_add, eq_self, decide_true, decide_false]
      exact WB_last ha h
    | true =>
      obtain ⟨c1, rfl⟩ := hb rfl
      obtain ⟨c2, rfl⟩ := hc rfl
      try simp only [C.ite_true, C.ite_false, C.pick_true, C.pick_false, C.not_bool, C.field_ptr, C.nilCheck_ptr, C.add_mk, C.sub_mk, C.mul_mk, C.eql_mk, C.neq_mk, C.lss_mk, C.leq_mk, C.gtr_mk, C.geq_mk, C.conv_mk, C.len_mk, C.ext_0, C.ext_1, C.ext3_0, C.ext3_1, C.ext3_2, C.guarded_yes, C.guarded_tf, C.guarded_ft, C.guarded_undef, Bool.not_true, Bool.not_false, Nat.zero_add, eq_self, decide_true, decide_false]
      refine C.loadA_all hx rfl (C.loadA_all hy rfl ⟨_, veq _ _ _ _ _ _, ?_⟩)
      try simp only [C.ite_true, C.ite_false, C.pick_true, C.pick_false, C.not_bool, C.field_ptr, C.nilCheck_ptr, C.add_mk, C.sub_mk, C.mul_mk, C.eql_mk, C.neq_mk, C.lss_mk, C.leq_mk, C.gtr_mk, C.geq_mk, C.conv_mk, C.len_mk, C.ext_0, C.ext_1, C.ext3_0, C.ext3_1, C.ext3_2, C.guarded_yes, C.guarded_tf, C.guarded_ft, C.guarded_undef, Bool.not_true, Bool.not_false, Nat.zero_add, eq_self, decide_true, decide_false]
      refine ⟨_, bneq4 _ _ _ _, ?_⟩
      have e : decide (putW k n = putW l m) = decide (k = l ∧ n = m) := by
        rw [Bool.eq_iff_iff]
        simp only [decide_eq_true_eq]
        constructor
        · intro e
          have b1 := back c1
          have b2 := back c2
          rw [e] at b1
          exact ⟨b1.1.symm.trans b2.1, b1.2.1.symm.trans b2.2.1⟩
        · rintro ⟨rfl, rfl⟩; rfl
      rw [e]
      simp only [C.ite_true, C.ite_false, C.pick_true, C.pick_false, C.not_bool, C.field_ptr, C.nilCheck_ptr, C.add_mk, C.sub_mk, C.mul_mk, C.eql_mk, C.neq_mk, C.lss_mk, C.leq_mk, C.gtr_mk, C.geq_mk, C.conv_mk, C.len_mk, C.ext_0, C.ext_1, C.ext3_0, C.ext3_1, C.ext3_2, C.guarded_yes, C.guarded_tf, C.guarded_ft, C.guarded_undef, Bool.not_true, Bool.not_false, Nat.zero_add, eq_self, decide_true, decide_false, beq_self_eq_true]
      exact WB_last ha h
theorem WordBack_c {a k n l m : Int} (ha : -9223372036854775808 ≤ a ∧ a ≤ 9223372036854775807) (h : ∀ w', Fr [] w w' → K (.bool true) w') : C.call Try.prog 7 #[V k n, V l m, .int .i64 a] w K := by
  refine F7.sh (C.new_of fun x w1 hn1 => C.new_of fun y w2 hn2 => WAlive_c fun w3 hf3 => ?_)
  have hx : w3.heap[x]? = some (vB k n) := hf3.at_ (hn2.fr.at_ hn1.at_ (by simp)) (by simp)
  have hy : w3.heap[y]? = some (vB l m) := hf3.at_ hn2.at_ (by simp)
  have lx : w.heap.size ≤ x := by have := hn1.is; omega
  have hf : Fr [] w w3 := hn1.fr.trans (hn2.fr.trans hf3)
  try simp only [C.ite_true, C.ite_false, C.pick_true, C.pick_false, C.not_bool, C.field_ptr, C.nilCheck_ptr, C.add_mk, C.sub_mk, C.mul_mk, C.eql_mk, C.neq_mk, C.lss_mk, C.leq_mk, C.gtr_mk, C.geq_mk, C.conv_mk, C.len_mk, C.ext_0, C.ext_1, C.ext3_0, C.ext3_1, C.ext3_2, C.guarded_yes, C.guarded_tf, C.guarded_ft, C.guarded_undef, Bool.not_true, Bool.not_false, Nat.zero_add, eq_self, decide_true, decide_false]
  -- the second word, and what comes behind
  have second : ∀ (p : Int) (b : Bool) (w4 : World), Fr [] w3 w4 → (b = true → chk k n = 0 ∧ p = putW k n) → ∀ (Q : Value → Value → World → Prop), (∀ (q : Int) (c : Bool) w5, Fr [] w4 w5 → (c = true → chk l m = 0 ∧ q = putW l m) → Q (.int .i64 q) (.bool c) w5) →
      C.loadA 2 (.pointer (some ⟨y, 0, none⟩)) w4 fun x25 w5 => C.call Try.prog 28 #[x25] w5 fun x26 w6 => C.ext 0 x26 w6 fun x27 w7 => C.ext 1 x26 w7 fun x28 w8 => Q x27 x28 w8 := by
    intro p b w4 hf4 _ Q hQ
    refine C.loadA_all (hf4.at_ hy (by simp)) rfl ?_
    by_cases hc : chk l m = 0
    · refine Put_yes l m hc fun w5 hf5 => ?_
      try simp only [C.ite_true, C.ite_false, C.pick_true, C.pick_false, C.not_bool, C.field_ptr, C.nilCheck_ptr, C.add_mk, C.sub_mk, C.mul_mk, C.eql_mk, C.neq_mk, C.lss_mk, C.leq_mk, C.gtr_mk, C.geq_mk, C.conv_mk, C.len_mk, C.ext_0, C.ext_1, C.ext3_0, C.ext3_1, C.ext3_2, C.guarded_yes, C.guarded_tf, C.guarded_ft, C.guarded_undef, Bool.not_true, Bool.not_false, Nat.zero_add, eq_self, decide_true, decide_false]
      exact hQ _ _ w5 hf5 fun _ => ⟨hc, rfl⟩
    · refine Put_no l m hc fun w5 hf5 => ?_
      try simp only [C.ite_true, C.ite_false, C.pick_true, C.pick_false, C.not_bool, C.field_ptr, C.nilCheck_ptr, C.add_mk, C.sub_mk, C.mul_mk, C.eql_mk, C.neq_mk, C.lss_mk, C.leq_mk, C.gtr_mk, C.geq_mk, C.conv_mk, C.len_mk, C.ext_0, C.ext_1, C.ext3_0, C.ext3_1, C.ext3_2, C.guarded_yes, C.guarded_tf, C.guarded_ft, C.guarded_undef, Bool.not_true, Bool.not_false, Nat.zero_add, eq_self, decide_true, decide_false]
      exact hQ _ _ w5 hf5 (by simp)
  refine F7.k3.to (C.loadA_all hx rfl ?_)
  by_cases hc : chk k n = 0
  · refine Put_yes k n hc fun w4 hf4 => ?_
    try simp only [C.ite_true, C.ite_false, C.pick_true, C.pick_false, C.not_bool, C.field_ptr, C.nilCheck_ptr, C.add_mk, C.sub_mk, C.mul_mk, C.eql_mk, C.neq_mk, C.lss_mk, C.leq_mk, C.gtr_mk, C.geq_mk, C.conv_mk, C.len_mk, C.ext_0, C.ext_1, C.ext3_0, C.ext3_1, C.ext3_2, C.guarded_yes, C.guarded_tf, C.guarded_ft, C.guarded_undef, Bool.not_true, Bool.not_false, Nat.zero_add, eq_self, decide_true, decide_false]
    refine second _ true w4 hf4 (fun _ => ⟨hc, rfl⟩) _ fun q c w5 hf5 hq => ?_
    try simp only [C.ite_true, C.ite_false, C.pick_true, C.pick_false, C.not_bool, C.field_ptr, C.nilCheck_ptr, C.add_mk, C.sub_mk, C.mul_mk, C.eql_mk, C.neq_mk, C.lss_mk, C.leq_mk, C.gtr_mk, C.geq_mk, C.conv_mk, C.len_mk, C.ext_0, C.ext_1, C.ext3_0, C.ext3_1, C.ext3_2, C.guarded_yes, C.guarded_tf, C.guarded_ft, C.guarded_undef, Bool.not_true, Bool.not_false, Nat.zero_add, eq_self, decide_true, decide_false]
    obtain ⟨b1, b2, b3, b4⟩ := back hc
    have hx5 := hf5.at_ (hf4.at_ hx (by simp)) (by simp)
    have hy5 := hf5.at_ (hf4.at_ hy (by simp)) (by simp)
    refine Read_c (putW k n) ⟨b3, b4⟩ (fun _ w6 hf6 => ?_) (fun hn => absurd (by rw [b1, b2]; exact hc) hn)
    rw [b1, b2]
    try simp only [C.ite_true, C.ite_false, C.pick_true, C.pick_false, C.not_bool, C.field_ptr, C.nilCheck_ptr, C.add_mk, C.sub_mk, C.mul_mk, C.eql_mk, C.neq_mk, C.lss_mk, C.leq_mk, C.gtr_mk, C.geq_mk, C.conv_mk, C.len_mk, C.ext_0, C.ext_1, C.ext3_0, C.ext3_1, C.ext3_2, C.guarded_yes, C.guarded_tf, C.guarded_ft, C.guarded_undef, Bool.not_true, Bool.not_false, Nat.zero_add, eq_self, decide_true, decide_false]
    refine C.new_of fun z w7 hn => C.store_all hn.at_ rfl v2_cells rfl fun w8 hu => ?_
    have lz : w5.heap.size ≤ z := by have := hn.is; have := hf6.size; omega
    have hf8 : Fr [] w5 w8 := (hf6.trans hn.fr).then hu.fr (by simp; omega)
    refine C.loadA_all hu.at_ rfl (C.loadA_all (hf8.at_ hx5 (by simp)) rfl ⟨_, vneq _ _ _ _ _ _, ?_⟩)
    simp only [C.ite_true, C.ite_false, C.pick_true, C.pick_false, C.not_bool, C.field_ptr, C.nilCheck_ptr, C.add_mk, C.sub_mk, C.mul_mk, C.eql_mk, C.neq_mk, C.lss_mk, C.leq_mk, C.gtr_mk, C.geq_mk, C.conv_mk, C.len_mk, C.ext_0, C.ext_1, C.ext3_0, C.ext3_1, C.ext3_2, C.guarded_yes, C.guarded_tf, C.guarded_ft, C.guarded_undef, Bool.not_true, Bool.not_false, Nat.zero_add, eq_self, decide_true, decide_false, and_self]
    exact WB_mid ha (hf8.at_ hx5 (by simp)) (hf8.at_ hy5 (by simp)) (fun w' hf' => h w' (hf.trans (hf4.trans (hf5.trans (hf8.trans hf'))))) (fun _ => ⟨hc, rfl⟩) hq
  · refine Put_no k n hc fun w4 hf4 => ?_
    try simp only [C.ite_true, C.ite_false, C.pick_true, C.pick_false, C.not_bool, C.field_ptr, C.nilCheck_ptr, C.add_mk, C.sub_mk, C.mul_mk, C.eql_mk, C.neq_mk, C.lss_mk, C.leq_mk, C.gtr_mk, C.geq_mk, C.conv_mk, C.len_mk, C.ext_0, C.ext_1, C.ext3_0, C.ext3_1, C.ext3_2, C.guarded_yes, C.guarded_tf, C.guarded_ft, C.guarded_undef, Bool.not_true, Bool.not_false, Nat.zero_add, eq_self, decide_true, decide_false]
    refine second 0 false w4 hf4 (by simp) _ fun q c w5 hf5 hq => ?_
    try simp only [C.ite_true, C.ite_false, C.pick_true, C.pick_false, C.not_bool, C.field_ptr, C.nilCheck_ptr, C.add_mk, C.sub_mk, C.mul_mk, C.eql_mk, C.neq_mk, C.lss_mk, C.leq_mk, C.gtr_mk, C.geq_mk, C.conv_mk, C.len_mk, C.ext_0, C.ext_1, C.ext3_0, C.ext3_1, C.ext3_2, C.guarded_yes, C.guarded_tf, C.guarded_ft, C.guarded_undef, Bool.not_true, Bool.not_false, Nat.zero_add, eq_self, decide_true, decide_false]
    have hx5 := hf5.at_ (hf4.at_ hx (by simp)) (by simp)
    have hy5 := hf5.at_ (hf4.at_ hy (by simp)) (by simp)
    exact WB_mid ha hx5 hy5 (fun w' hf' => h w' (hf.trans (hf4.trans (hf5.trans hf')))) (by simp) hq
end
end Go.Proofs.YtckageghbhkklaaV
