/- The law's functions over a bank and a book. -/
import Derived.Test.YtckageghbhkklaaBank1
import Derived.Test.YtckageghbhkklaaRow
namespace Go.Proofs.YtckageghbhkklaaV
open Go Go.Proofs
set_option linter.unusedVariables false
set_option linter.unusedSimpArgs false

def bookV (m i o l : Int) : Value := .agg #[.int .i64 m, .int .i64 (i - o), .int .i64 i, .int .i64 o, .int .i64 l]
def bookB (m i o l : Int) : Obj := .cells #[.int .i64 m, .int .i64 (i - o), .int .i64 i, .int .i64 o, .int .i64 l] 25 (0, 0)
section
variable {K : VK} {w : World}
theorem told_c {g : Nat} {i o l m : Int} (hg : w.heap[g]? = some (bk i o l true m)) (hk : BkOk i o l m) (h : ∀ w', Fr [] w w' → K (.bool true) w') : C.call Try.prog 35 #[.pointer (some ⟨g, 0, none⟩), bookV m i o l] w K := by
  obtain ⟨h1, h2, h3, h4, h5, h6, h7, h8⟩ := hk
  refine F35.sh (C.new_of fun b w1 hn => ?_)
  have hb : w1.heap[b]? = some (bookB m i o l) := hn.at_
  have hg1 := hn.fr.at_ hg (by simp)
  refine C.draw_of (fun w' => w'.heap[b]? = some (bookB m i o l)) fun w2 hf2 he2 => ⟨by rw [he2]; exact hb, ?_⟩
  have hg2 := hf2.at_ hg1 (by simp)
  have hb2 := hf2.at_ hb (by simp)
  try simp only [C.ite_true, C.ite_false, C.pick_true, C.pick_false, C.not_bool, C.field_ptr, C.nilCheck_ptr, C.add_mk, C.sub_mk, C.mul_mk, C.eql_mk, C.neq_mk, C.lss_mk, C.leq_mk, C.gtr_mk, C.geq_mk, C.conv_mk, C.len_mk, C.ext_0, C.ext_1, C.ext3_0, C.ext3_1, C.ext3_2, C.guarded_yes, C.guarded_tf, C.guarded_ft, C.guarded_undef, Bool.not_true, Bool.not_false, Nat.zero_add, eq_self, decide_true, decide_false]
  refine C.load1S_of (v := .int .i64 (i - o)) (fun w' hw => ⟨_, _, _, hw, rfl⟩) ⟨Balance_c hg2 fun w3 hf3 he3 => ?_, trivial⟩
  have hg3 := hf3.at_ hg2 (by simp)
  have hb3 := hf3.at_ hb2 (by simp)
  refine ⟨hb3, ?_⟩
  rw [wrap64_id (n := i - o) (by omega)]
  try simp only [C.ite_true, C.ite_false, C.pick_true, C.pick_false, C.not_bool, C.field_ptr, C.nilCheck_ptr, C.add_mk, C.sub_mk, C.mul_mk, C.eql_mk, C.neq_mk, C.lss_mk, C.leq_mk, C.gtr_mk, C.geq_mk, C.conv_mk, C.len_mk, C.ext_0, C.ext_1, C.ext3_0, C.ext3_1, C.ext3_2, C.guarded_yes, C.guarded_tf, C.guarded_ft, C.guarded_undef, Bool.not_true, Bool.not_false, Nat.zero_add, eq_self, decide_true, decide_false]
  refine C.load1S_of (v := .int .i64 i) (fun w' hw => ⟨_, _, _, hw, rfl⟩) ⟨In_c hg3 ⟨hb3, ?_⟩, trivial⟩
  try simp only [C.ite_true, C.ite_false, C.pick_true, C.pick_false, C.not_bool, C.field_ptr, C.nilCheck_ptr, C.add_mk, C.sub_mk, C.mul_mk, C.eql_mk, C.neq_mk, C.lss_mk, C.leq_mk, C.gtr_mk, C.geq_mk, C.conv_mk, C.len_mk, C.ext_0, C.ext_1, C.ext3_0, C.ext3_1, C.ext3_2, C.guarded_yes, C.guarded_tf, C.guarded_ft, C.guarded_undef, Bool.not_true, Bool.not_false, Nat.zero_add, eq_self, decide_true, decide_false]
  refine C.load1S_of (v := .int .i64 o) (fun w' hw => ⟨_, _, _, hw, rfl⟩) ⟨Out_c hg3 ⟨hb3, ?_⟩, trivial⟩
  try simp only [C.ite_true, C.ite_false, C.pick_true, C.pick_false, C.not_bool, C.field_ptr, C.nilCheck_ptr, C.add_mk, C.sub_mk, C.mul_mk, C.eql_mk, C.neq_mk, C.lss_mk, C.leq_mk, C.gtr_mk, C.geq_mk, C.conv_mk, C.len_mk, C.ext_0, C.ext_1, C.ext3_0, C.ext3_1, C.ext3_2, C.guarded_yes, C.guarded_tf, C.guarded_ft, C.guarded_undef, Bool.not_true, Bool.not_false, Nat.zero_add, eq_self, decide_true, decide_false]
  refine C.load1S_of (v := .int .i64 l) (fun w' hw => ⟨_, _, _, hw, rfl⟩) ⟨Lost_c hg3 ⟨hb3, ?_⟩, trivial⟩
  try simp only [C.ite_true, C.ite_false, C.pick_true, C.pick_false, C.not_bool, C.field_ptr, C.nilCheck_ptr, C.add_mk, C.sub_mk, C.mul_mk, C.eql_mk, C.neq_mk, C.lss_mk, C.leq_mk, C.gtr_mk, C.geq_mk, C.conv_mk, C.len_mk, C.ext_0, C.ext_1, C.ext3_0, C.ext3_1, C.ext3_2, C.guarded_yes, C.guarded_tf, C.guarded_ft, C.guarded_undef, Bool.not_true, Bool.not_false, Nat.zero_add, eq_self, decide_true, decide_false]
  exact h w3 (hn.fr.trans (hf2.trans hf3))
/-- What an operation makes of what came, went and was lost. -/
def stepI (m i o : Int) (k n : Int) : Int := if k = 1 then i + min (clamp n 0 2147483648) (m - (i - o)) else i
def stepO (m i o : Int) (k n : Int) : Int := if k = 1 then o else if k = 2 then (if n < 0 ∨ n > i - o then o else o + n) else o + clamp n 0 (i - o)
def stepL (m i o l : Int) (k n : Int) : Int := if k = 1 then l + (clamp n 0 2147483648 - min (clamp n 0 2147483648) (m - (i - o))) else l
theorem BkIn.step {B i o l m : Int} (h : BkIn B i o l m) (k n : Int) (hB : B ≤ 1152921504606846976 - 2147483648) : BkIn (B + 2147483648) (stepI m i o k n) (stepO m i o k n) (stepL m i o l k n) m := by
  obtain ⟨⟨h1, h2, h3, h4, h5, h6, h7, h8⟩, h9, h10⟩ := h
  have c1 := clamp_bd n 0 2147483648 (by omega)
  have c2 := clamp_bd n 0 (i - o) (by omega)
  unfold stepI stepO stepL
  generalize clamp n 0 2147483648 = c at *
  generalize clamp n 0 (i - o) = d at *
  by_cases k1 : k = 1
  · simp only [k1, if_true]
    refine ⟨⟨?_, ?_, ?_, ?_, ?_, ?_, ?_, ?_⟩, ?_, ?_⟩ <;> omega
  · by_cases k2 : k = 2
    · by_cases hn : n < 0 ∨ n > i - o
      · simp only [k1, k2, hn, if_true, if_false, show ¬ (2 : Int) = 1 by decide]
        refine ⟨⟨?_, ?_, ?_, ?_, ?_, ?_, ?_, ?_⟩, ?_, ?_⟩ <;> omega
      · simp only [k1, k2, hn, if_true, if_false, show ¬ (2 : Int) = 1 by decide]
        refine ⟨⟨?_, ?_, ?_, ?_, ?_, ?_, ?_, ?_⟩, ?_, ?_⟩ <;> omega
    · simp only [k1, k2, if_false]
      refine ⟨⟨?_, ?_, ?_, ?_, ?_, ?_, ?_, ?_⟩, ?_, ?_⟩ <;> omega
theorem build25 (a b c d e : Int) : (Instr.build 25 #[(0, .int .i64 a), (1, .int .i64 b), (2, .int .i64 c), (3, .int .i64 d), (4, .int .i64 e)]).run Try.prog w = .ok (.agg #[.int .i64 a, .int .i64 b, .int .i64 c, .int .i64 d, .int .i64 e]) w := by kernel_rfl
theorem int5_cells {a b c d e : Int} : ∀ v ∈ (Value.agg #[.int .i64 a, .int .i64 b, .int .i64 c, .int .i64 d, .int .i64 e]).cells.toList, v.oneCell' = true := by
  intro v hv
  simp only [Value.cells, List.mem_cons, List.not_mem_nil, or_false] at hv
  rcases hv with rfl | rfl | rfl | rfl | rfl <;> rfl
theorem step_c {g : Nat} {B i o l m : Int} (k n : Int) (hg : w.heap[g]? = some (bk i o l true m)) (hk : BkIn B i o l m) (hB : B ≤ 1000000000000000000)
    (h : ∀ w', Fr [g] w w' → w'.heap[g]? = some (bk (stepI m i o k n) (stepO m i o k n) (stepL m i o l k n) true m) → K (.tuple #[bookV m (stepI m i o k n) (stepO m i o k n) (stepL m i o l k n), .bool true]) w') :
    C.call Try.prog 57 #[.pointer (some ⟨g, 0, none⟩), bookV m i o l, .agg #[.int .i64 k, .int .i64 n]] w K := by
  have hk' := hk
  obtain ⟨⟨h1, h2, h3, h4, h5, h6, h7, h8⟩, h9, h10⟩ := hk
  have c1 := clamp_bd n 0 2147483648 (by omega)
  have c2 := clamp_bd n 0 (i - o) (by omega)
  refine F57.sh (C.new_of fun b w1 hn1 => C.new_of fun x w2 hn2 => C.new_of fun r w3 hn3 => ?_)
  have lg := lt_of_at hg
  have hgb : g ≠ b := hn1.ne lg
  have hgx : g ≠ x := hn2.ne (hn1.fr.lt lg)
  have hgr : g ≠ r := hn3.ne (hn2.fr.lt (hn1.fr.lt lg))
  have hbr : b ≠ r := hn3.ne (hn2.fr.lt (lt_of_at hn1.at_))
  have hxr : x ≠ r := hn3.ne (lt_of_at hn2.at_)
  have hb3 : w3.heap[b]? = some (bookB m i o l) := hn3.fr.at_ (hn2.fr.at_ hn1.at_ (by simp)) (by simp)
  have hx3 : w3.heap[x]? = some (.cells #[.int .i64 k, .int .i64 n] 34 (0, 0)) := hn3.fr.at_ hn2.at_ (by simp)
  have hr3 := hn3.at_
  have hf3 : Fr [] w w3 := hn1.fr.trans (hn2.fr.trans hn3.fr)
  have hg3 := hf3.at_ hg (by simp)
  have lr : w.heap.size ≤ r := by have := hn3.is; have := hn1.fr.size; have := hn2.fr.size; omega
  have lb : w.heap.size ≤ b := by have := hn1.is; omega
  have lx : w.heap.size ≤ x := by have := hn2.is; have := hn1.fr.size; omega
  clear hn1 hn2 hn3
  try simp only [C.ite_true, C.ite_false, C.pick_true, C.pick_false, C.not_bool, C.field_ptr, C.nilCheck_ptr, C.add_mk, C.sub_mk, C.mul_mk, C.eql_mk, C.neq_mk, C.lss_mk, C.leq_mk, C.gtr_mk, C.geq_mk, C.conv_mk, C.len_mk, C.ext_0, C.ext_1, C.ext3_0, C.ext3_1, C.ext3_2, C.guarded_yes, C.guarded_tf, C.guarded_ft, C.guarded_undef, Bool.not_true, Bool.not_false, Nat.zero_add, eq_self, decide_true, decide_false]
  refine C.load1_of (v := .int .i64 k) hx3 rfl ?_
  simp only [C.ite_true, C.ite_false, C.pick_true, C.pick_false, C.not_bool, C.field_ptr, C.nilCheck_ptr, C.add_mk, C.sub_mk, C.mul_mk, C.eql_mk, C.neq_mk, C.lss_mk, C.leq_mk, C.gtr_mk, C.geq_mk, C.conv_mk, C.len_mk, C.ext_0, C.ext_1, C.ext3_0, C.ext3_1, C.ext3_2, C.guarded_yes, C.guarded_tf, C.guarded_ft, C.guarded_undef, Bool.not_true, Bool.not_false, Nat.zero_add, eq_self, decide_true, decide_false, C.ite_bool, decide_eq_true_eq, decide_eq_false_iff_not]
  refine ⟨fun k1 => ?_, fun k1 => ?_⟩
  · -- Put
    refine C.load1_of (v := .int .i64 n) hx3 rfl (Near_c _ _ _ ?_)
    try simp only [C.ite_true, C.ite_false, C.pick_true, C.pick_false, C.not_bool, C.field_ptr, C.nilCheck_ptr, C.add_mk, C.sub_mk, C.mul_mk, C.eql_mk, C.neq_mk, C.lss_mk, C.leq_mk, C.gtr_mk, C.geq_mk, C.conv_mk, C.len_mk, C.ext_0, C.ext_1, C.ext3_0, C.ext3_1, C.ext3_2, C.guarded_yes, C.guarded_tf, C.guarded_ft, C.guarded_undef, Bool.not_true, Bool.not_false, Nat.zero_add, eq_self, decide_true, decide_false]
    refine C.load1_of (v := .int .i64 m) hb3 rfl ?_
    try simp only [C.ite_true, C.ite_false, C.pick_true, C.pick_false, C.not_bool, C.field_ptr, C.nilCheck_ptr, C.add_mk, C.sub_mk, C.mul_mk, C.eql_mk, C.neq_mk, C.lss_mk, C.leq_mk, C.gtr_mk, C.geq_mk, C.conv_mk, C.len_mk, C.ext_0, C.ext_1, C.ext3_0, C.ext3_1, C.ext3_2, C.guarded_yes, C.guarded_tf, C.guarded_ft, C.guarded_undef, Bool.not_true, Bool.not_false, Nat.zero_add, eq_self, decide_true, decide_false]
    refine C.load1_of (v := .int .i64 (i - o)) hb3 rfl ?_
    try simp only [C.ite_true, C.ite_false, C.pick_true, C.pick_false, C.not_bool, C.field_ptr, C.nilCheck_ptr, C.add_mk, C.sub_mk, C.mul_mk, C.eql_mk, C.neq_mk, C.lss_mk, C.leq_mk, C.gtr_mk, C.geq_mk, C.conv_mk, C.len_mk, C.ext_0, C.ext_1, C.ext3_0, C.ext3_1, C.ext3_2, C.guarded_yes, C.guarded_tf, C.guarded_ft, C.guarded_undef, Bool.not_true, Bool.not_false, Nat.zero_add, eq_self, decide_true, decide_false]
    rw [wrap64_id (n := m - (i - o)) (by omega)]
    refine C.run_of (min2_run _ _ _ _ _) ?_
    refine C.draw_of (fun w' => w'.heap[b]? = some (bookB m i o l) ∧ w'.heap[x]? = some (.cells #[.int .i64 k, .int .i64 n] 34 (0, 0))) fun w4 hf4 he4 => ⟨by rw [he4]; exact ⟨hb3, hx3⟩, ?_⟩
    have hg4 := hf4.at_ hg3 (by simp)
    have hb4 := hf4.at_ hb3 (by simp)
    have hx4 := hf4.at_ hx3 (by simp)
    have hr4 := hf4.at_ hr3 (by simp)
    try simp only [C.ite_true, C.ite_false, C.pick_true, C.pick_false, C.not_bool, C.field_ptr, C.nilCheck_ptr, C.add_mk, C.sub_mk, C.mul_mk, C.eql_mk, C.neq_mk, C.lss_mk, C.leq_mk, C.gtr_mk, C.geq_mk, C.conv_mk, C.len_mk, C.ext_0, C.ext_1, C.ext3_0, C.ext3_1, C.ext3_2, C.guarded_yes, C.guarded_tf, C.guarded_ft, C.guarded_undef, Bool.not_true, Bool.not_false, Nat.zero_add, eq_self, decide_true, decide_false]
    have e0 : min (clamp n 0 2147483648) (m - (i - o)) = stepI m i o k n - i := by unfold stepI; rw [if_pos k1]; omega
    have q0 : 0 ≤ min (clamp n 0 2147483648) (m - (i - o)) ∧ min (clamp n 0 2147483648) (m - (i - o)) ≤ 2147483648 := by omega
    rw [wrap64_id (n := clamp n 0 2147483648 - min (clamp n 0 2147483648) (m - (i - o))) (by omega)]
    refine C.load1S_of (v := .int .i64 m) (fun w' hw => ⟨_, _, _, hw.1, rfl⟩) (C.load1S_of (v := .int .i64 (i - o)) (fun w' hw => ⟨_, _, _, hw.1, rfl⟩) ?_)
    try simp only [C.ite_true, C.ite_false, C.pick_true, C.pick_false, C.not_bool, C.field_ptr, C.nilCheck_ptr, C.add_mk, C.sub_mk, C.mul_mk, C.eql_mk, C.neq_mk, C.lss_mk, C.leq_mk, C.gtr_mk, C.geq_mk, C.conv_mk, C.len_mk, C.ext_0, C.ext_1, C.ext3_0, C.ext3_1, C.ext3_2, C.guarded_yes, C.guarded_tf, C.guarded_ft, C.guarded_undef, Bool.not_true, Bool.not_false, Nat.zero_add, eq_self, decide_true, decide_false]
    refine C.load1S_of (v := .int .i64 i) (fun w' hw => ⟨_, _, _, hw.1, rfl⟩) ?_
    try simp only [C.ite_true, C.ite_false, C.pick_true, C.pick_false, C.not_bool, C.field_ptr, C.nilCheck_ptr, C.add_mk, C.sub_mk, C.mul_mk, C.eql_mk, C.neq_mk, C.lss_mk, C.leq_mk, C.gtr_mk, C.geq_mk, C.conv_mk, C.len_mk, C.ext_0, C.ext_1, C.ext3_0, C.ext3_1, C.ext3_2, C.guarded_yes, C.guarded_tf, C.guarded_ft, C.guarded_undef, Bool.not_true, Bool.not_false, Nat.zero_add, eq_self, decide_true, decide_false]
    refine C.load1S_of (v := .int .i64 o) (fun w' hw => ⟨_, _, _, hw.1, rfl⟩) (C.load1S_of (v := .int .i64 l) (fun w' hw => ⟨_, _, _, hw.1, rfl⟩) ?_)
    try simp only [C.ite_true, C.ite_false, C.pick_true, C.pick_false, C.not_bool, C.field_ptr, C.nilCheck_ptr, C.add_mk, C.sub_mk, C.mul_mk, C.eql_mk, C.neq_mk, C.lss_mk, C.leq_mk, C.gtr_mk, C.geq_mk, C.conv_mk, C.len_mk, C.ext_0, C.ext_1, C.ext3_0, C.ext3_1, C.ext3_2, C.guarded_yes, C.guarded_tf, C.guarded_ft, C.guarded_undef, Bool.not_true, Bool.not_false, Nat.zero_add, eq_self, decide_true, decide_false]
    rw [wrap64_id (n := i - o + min (clamp n 0 2147483648) (m - (i - o))) (by omega), wrap64_id (n := i + min (clamp n 0 2147483648) (m - (i - o))) (by omega),
      wrap64_id (n := l + (clamp n 0 2147483648 - min (clamp n 0 2147483648) (m - (i - o)))) (by omega)]
    refine ⟨_, fun w' _ => build25 _ _ _ _ _, C.load1S_of (v := .int .i64 n) (fun w' hw => ⟨_, _, _, hw.2, rfl⟩) ⟨Put_c n hg4 hk'.toBkOk fun w5 hf5 hg5 => ?_, trivial⟩⟩
    have hb5 := hf5.at_ hb4 (by simp; omega)
    have hx5 := hf5.at_ hx4 (by simp; omega)
    have hr5 := hf5.at_ hr4 (by simp; omega)
    refine ⟨⟨hb5, hx5⟩, ?_⟩
    try simp only [C.ite_true, C.ite_false, C.pick_true, C.pick_false, C.not_bool, C.field_ptr, C.nilCheck_ptr, C.add_mk, C.sub_mk, C.mul_mk, C.eql_mk, C.neq_mk, C.lss_mk, C.leq_mk, C.gtr_mk, C.geq_mk, C.conv_mk, C.len_mk, C.ext_0, C.ext_1, C.ext3_0, C.ext3_1, C.ext3_2, C.guarded_yes, C.guarded_tf, C.guarded_ft, C.guarded_undef, Bool.not_true, Bool.not_false, Nat.zero_add, eq_self, decide_true, decide_false]
    refine ⟨C.store_all hr5 rfl int5_cells rfl fun w6 hu => ?_, trivial⟩
    refine ⟨⟨hu.fr.at_ hb5 (by simp; omega), hu.fr.at_ hx5 (by simp; omega)⟩, ?_⟩
    refine C.loadA_all hu.at_ rfl ?_
    have hg6 := hu.fr.at_ hg5 (by simp; omega)
    have e2 : stepO m i o k n = o := by unfold stepO; rw [if_pos k1]
    have e1 : stepI m i o k n = i + min (clamp n 0 2147483648) (m - (i - o)) := by unfold stepI; rw [if_pos k1]
    have e3 : stepL m i o l k n = l + (clamp n 0 2147483648 - min (clamp n 0 2147483648) (m - (i - o))) := by unfold stepL; rw [if_pos k1]
    have hfin := h w6 (((hf3.w.trans hf4.w).trans hf5).then hu.fr (by simp; omega)) (by rw [e1, e2, e3]; exact hg6)
    rw [e1, e2, e3] at hfin
    have e4 : i - o + min (clamp n 0 2147483648) (m - (i - o)) = i + min (clamp n 0 2147483648) (m - (i - o)) - o := by omega
    rw [e4]
    exact hfin
  · have e1 : stepI m i o k n = i := by unfold stepI; rw [if_neg k1]
    have e3 : stepL m i o l k n = l := by unfold stepL; rw [if_neg k1]
    refine F57.k5.to ?_
    try simp only [C.ite_true, C.ite_false, C.pick_true, C.pick_false, C.not_bool, C.field_ptr, C.nilCheck_ptr, C.add_mk, C.sub_mk, C.mul_mk, C.eql_mk, C.neq_mk, C.lss_mk, C.leq_mk, C.gtr_mk, C.geq_mk, C.conv_mk, C.len_mk, C.ext_0, C.ext_1, C.ext3_0, C.ext3_1, C.ext3_2, C.guarded_yes, C.guarded_tf, C.guarded_ft, C.guarded_undef, Bool.not_true, Bool.not_false, Nat.zero_add, eq_self, decide_true, decide_false]
    refine C.load1_of (v := .int .i64 k) hx3 rfl ?_
    simp only [C.ite_true, C.ite_false, C.pick_true, C.pick_false, C.not_bool, C.field_ptr, C.nilCheck_ptr, C.add_mk, C.sub_mk, C.mul_mk, C.eql_mk, C.neq_mk, C.lss_mk, C.leq_mk, C.gtr_mk, C.geq_mk, C.conv_mk, C.len_mk, C.ext_0, C.ext_1, C.ext3_0, C.ext3_1, C.ext3_2, C.guarded_yes, C.guarded_tf, C.guarded_ft, C.guarded_undef, Bool.not_true, Bool.not_false, Nat.zero_add, eq_self, decide_true, decide_false, C.ite_bool, decide_eq_true_eq, decide_eq_false_iff_not]
    refine ⟨fun k2 => ?_, fun k2 => ?_⟩
    · -- Take
      refine C.load1_of (v := .int .i64 n) hx3 rfl ?_
      try simp only [C.ite_true, C.ite_false, C.pick_true, C.pick_false, C.not_bool, C.field_ptr, C.nilCheck_ptr, C.add_mk, C.sub_mk, C.mul_mk, C.eql_mk, C.neq_mk, C.lss_mk, C.leq_mk, C.gtr_mk, C.geq_mk, C.conv_mk, C.len_mk, C.ext_0, C.ext_1, C.ext3_0, C.ext3_1, C.ext3_2, C.guarded_yes, C.guarded_tf, C.guarded_ft, C.guarded_undef, Bool.not_true, Bool.not_false, Nat.zero_add, eq_self, decide_true, decide_false]
      have no : (n < 0 ∨ n > i - o) → C.draw w3 fun S w13 => C.loadAS S 5 (Value.pointer (some ⟨b, 0, none⟩)) w13 fun x62_15 w15 => C.load1S S (Value.pointer (some ⟨x, 1, none⟩)) w15 fun x65_16 w16 =>
          (C.call Try.prog 20 #[Value.pointer (some ⟨g, 0, none⟩), x65_16] w16 fun x66_17 w17 => (S w17 ∧ C.not x66_17 w17 fun x67_18 w18 => (C.store 5 (Value.pointer (some ⟨r, 0, none⟩)) x62_15 w18 fun w19 => (S w19 ∧
          C.loadA 5 (Value.pointer (some ⟨r, 0, none⟩)) w19 fun r20 _ => K (.tuple #[r20, x67_18]) w19)) ∧ True)) ∧ True := by
        intro hn
        refine C.draw_of (fun w' => w'.heap[b]? = some (bookB m i o l) ∧ w'.heap[x]? = some (.cells #[.int .i64 k, .int .i64 n] 34 (0, 0))) fun w4 hf4 he4 => ⟨by rw [he4]; exact ⟨hb3, hx3⟩, ?_⟩
        have hg4 := hf4.at_ hg3 (by simp)
        have hb4 := hf4.at_ hb3 (by simp)
        have hx4 := hf4.at_ hx3 (by simp)
        have hr4 := hf4.at_ hr3 (by simp)
        refine C.loadAS_of (vs := [.int .i64 m, .int .i64 (i - o), .int .i64 i, .int .i64 o, .int .i64 l]) (fun w' hw => ⟨_, _, _, hw.1, by simp, rfl⟩) (C.load1S_of (v := .int .i64 n) (fun w' hw => ⟨_, _, _, hw.2, rfl⟩) ⟨Take_no n hg4 hk'.toBkOk hn fun w5 hf5 he5 => ?_, trivial⟩)
        have hb5 := hf5.at_ hb4 (by simp)
        have hx5 := hf5.at_ hx4 (by simp)
        have hr5 := hf5.at_ hr4 (by simp)
        have hg5 := hf5.at_ hg4 (by simp)
        refine ⟨⟨hb5, hx5⟩, ?_⟩
        try simp only [C.ite_true, C.ite_false, C.pick_true, C.pick_false, C.not_bool, C.field_ptr, C.nilCheck_ptr, C.add_mk, C.sub_mk, C.mul_mk, C.eql_mk, C.neq_mk, C.lss_mk, C.leq_mk, C.gtr_mk, C.geq_mk, C.conv_mk, C.len_mk, C.ext_0, C.ext_1, C.ext3_0, C.ext3_1, C.ext3_2, C.guarded_yes, C.guarded_tf, C.guarded_ft, C.guarded_undef, Bool.not_true, Bool.not_false, Nat.zero_add, eq_self, decide_true, decide_false]
        refine ⟨C.store_all hr5 rfl int5_cells rfl fun w6 hu => ?_, trivial⟩
        refine ⟨⟨hu.fr.at_ hb5 (by simp; omega), hu.fr.at_ hx5 (by simp; omega)⟩, ?_⟩
        refine C.loadA_all hu.at_ rfl ?_
        have hg6 := hu.fr.at_ hg5 (by simp; omega)
        have e2 : stepO m i o k n = o := by unfold stepO; rw [if_neg k1, if_pos k2, if_pos hn]
        have hfin := h w6 (((hf3.w.trans hf4.w).trans hf5.w).then hu.fr (by simp; omega)) (by rw [e1, e2, e3]; exact hg6)
        rw [e1, e2, e3] at hfin
        exact hfin
      by_cases hn0 : n < 0
      · simp only [hn0, C.ite_true, C.ite_false, C.pick_true, C.pick_false, C.not_bool, C.field_ptr, C.nilCheck_ptr, C.add_mk, C.sub_mk, C.mul_mk, C.eql_mk, C.neq_mk, C.lss_mk, C.leq_mk, C.gtr_mk, C.geq_mk, C.conv_mk, C.len_mk, C.ext_0, C.ext_1, C.ext3_0, C.ext3_1, C.ext3_2, C.guarded_yes, C.guarded_tf, C.guarded_ft, C.guarded_undef, Bool.not_true, Bool.not_false, Nat.zero_add, eq_self, decide_true, decide_false]
        exact no (.inl hn0)
      · simp only [hn0, C.ite_true, C.ite_false, C.pick_true, C.pick_false, C.not_bool, C.field_ptr, C.nilCheck_ptr, C.add_mk, C.sub_mk, C.mul_mk, C.eql_mk, C.neq_mk, C.lss_mk, C.leq_mk, C.gtr_mk, C.geq_mk, C.conv_mk, C.len_mk, C.ext_0, C.ext_1, C.ext3_0, C.ext3_1, C.ext3_2, C.guarded_yes, C.guarded_tf, C.guarded_ft, C.guarded_undef, Bool.not_true, Bool.not_false, Nat.zero_add, eq_self, decide_true, decide_false]
        refine C.load1_of (v := .int .i64 n) hx3 rfl ?_
        try simp only [C.ite_true, C.ite_false, C.pick_true, C.pick_false, C.not_bool, C.field_ptr, C.nilCheck_ptr, C.add_mk, C.sub_mk, C.mul_mk, C.eql_mk, C.neq_mk, C.lss_mk, C.leq_mk, C.gtr_mk, C.geq_mk, C.conv_mk, C.len_mk, C.ext_0, C.ext_1, C.ext3_0, C.ext3_1, C.ext3_2, C.guarded_yes, C.guarded_tf, C.guarded_ft, C.guarded_undef, Bool.not_true, Bool.not_false, Nat.zero_add, eq_self, decide_true, decide_false]
        refine C.load1_of (v := .int .i64 (i - o)) hb3 rfl ?_
        try simp only [C.ite_true, C.ite_false, C.pick_true, C.pick_false, C.not_bool, C.field_ptr, C.nilCheck_ptr, C.add_mk, C.sub_mk, C.mul_mk, C.eql_mk, C.neq_mk, C.lss_mk, C.leq_mk, C.gtr_mk, C.geq_mk, C.conv_mk, C.len_mk, C.ext_0, C.ext_1, C.ext3_0, C.ext3_1, C.ext3_2, C.guarded_yes, C.guarded_tf, C.guarded_ft, C.guarded_undef, Bool.not_true, Bool.not_false, Nat.zero_add, eq_self, decide_true, decide_false]
        by_cases hn1 : n > i - o
        · simp only [hn1, C.ite_true, C.ite_false, C.pick_true, C.pick_false, C.not_bool, C.field_ptr, C.nilCheck_ptr, C.add_mk, C.sub_mk, C.mul_mk, C.eql_mk, C.neq_mk, C.lss_mk, C.leq_mk, C.gtr_mk, C.geq_mk, C.conv_mk, C.len_mk, C.ext_0, C.ext_1, C.ext3_0, C.ext3_1, C.ext3_2, C.guarded_yes, C.guarded_tf, C.guarded_ft, C.guarded_undef, Bool.not_true, Bool.not_false, Nat.zero_add, eq_self, decide_true, decide_false]
          exact no (.inr hn1)
        · simp only [hn1, C.ite_true, C.ite_false, C.pick_true, C.pick_false, C.not_bool, C.field_ptr, C.nilCheck_ptr, C.add_mk, C.sub_mk, C.mul_mk, C.eql_mk, C.neq_mk, C.lss_mk, C.leq_mk, C.gtr_mk, C.geq_mk, C.conv_mk, C.len_mk, C.ext_0, C.ext_1, C.ext3_0, C.ext3_1, C.ext3_2, C.guarded_yes, C.guarded_tf, C.guarded_ft, C.guarded_undef, Bool.not_true, Bool.not_false, Nat.zero_add, eq_self, decide_true, decide_false]
          refine F57.k8.to ?_
          refine C.draw_of (fun w' => w'.heap[b]? = some (bookB m i o l) ∧ w'.heap[x]? = some (.cells #[.int .i64 k, .int .i64 n] 34 (0, 0))) fun w4 hf4 he4 => ⟨by rw [he4]; exact ⟨hb3, hx3⟩, ?_⟩
          have hg4 := hf4.at_ hg3 (by simp)
          have hb4 := hf4.at_ hb3 (by simp)
          have hx4 := hf4.at_ hx3 (by simp)
          have hr4 := hf4.at_ hr3 (by simp)
          try simp only [C.ite_true, C.ite_false, C.pick_true, C.pick_false, C.not_bool, C.field_ptr, C.nilCheck_ptr, C.add_mk, C.sub_mk, C.mul_mk, C.eql_mk, C.neq_mk, C.lss_mk, C.leq_mk, C.gtr_mk, C.geq_mk, C.conv_mk, C.len_mk, C.ext_0, C.ext_1, C.ext3_0, C.ext3_1, C.ext3_2, C.guarded_yes, C.guarded_tf, C.guarded_ft, C.guarded_undef, Bool.not_true, Bool.not_false, Nat.zero_add, eq_self, decide_true, decide_false]
          refine C.load1S_of (v := .int .i64 m) (fun w' hw => ⟨_, _, _, hw.1, rfl⟩) (C.load1S_of (v := .int .i64 (i - o)) (fun w' hw => ⟨_, _, _, hw.1, rfl⟩) (C.load1S_of (v := .int .i64 n) (fun w' hw => ⟨_, _, _, hw.2, rfl⟩) ?_))
          try simp only [C.ite_true, C.ite_false, C.pick_true, C.pick_false, C.not_bool, C.field_ptr, C.nilCheck_ptr, C.add_mk, C.sub_mk, C.mul_mk, C.eql_mk, C.neq_mk, C.lss_mk, C.leq_mk, C.gtr_mk, C.geq_mk, C.conv_mk, C.len_mk, C.ext_0, C.ext_1, C.ext3_0, C.ext3_1, C.ext3_2, C.guarded_yes, C.guarded_tf, C.guarded_ft, C.guarded_undef, Bool.not_true, Bool.not_false, Nat.zero_add, eq_self, decide_true, decide_false]
          refine C.load1S_of (v := .int .i64 i) (fun w' hw => ⟨_, _, _, hw.1, rfl⟩) (C.load1S_of (v := .int .i64 o) (fun w' hw => ⟨_, _, _, hw.1, rfl⟩) (C.load1S_of (v := .int .i64 n) (fun w' hw => ⟨_, _, _, hw.2, rfl⟩) ?_))
          try simp only [C.ite_true, C.ite_false, C.pick_true, C.pick_false, C.not_bool, C.field_ptr, C.nilCheck_ptr, C.add_mk, C.sub_mk, C.mul_mk, C.eql_mk, C.neq_mk, C.lss_mk, C.leq_mk, C.gtr_mk, C.geq_mk, C.conv_mk, C.len_mk, C.ext_0, C.ext_1, C.ext3_0, C.ext3_1, C.ext3_2, C.guarded_yes, C.guarded_tf, C.guarded_ft, C.guarded_undef, Bool.not_true, Bool.not_false, Nat.zero_add, eq_self, decide_true, decide_false]
          refine C.load1S_of (v := .int .i64 l) (fun w' hw => ⟨_, _, _, hw.1, rfl⟩) ?_
          rw [wrap64_id (n := i - o - n) (by omega), wrap64_id (n := o + n) (by omega)]
          refine ⟨_, fun w' _ => build25 _ _ _ _ _, C.load1S_of (v := .int .i64 n) (fun w' hw => ⟨_, _, _, hw.2, rfl⟩) ⟨Take_yes n hg4 hk'.toBkOk (by omega) fun w5 hf5 hg5 => ?_, trivial⟩⟩
          have hb5 := hf5.at_ hb4 (by simp; omega)
          have hx5 := hf5.at_ hx4 (by simp; omega)
          have hr5 := hf5.at_ hr4 (by simp; omega)
          refine ⟨⟨hb5, hx5⟩, ?_⟩
          refine ⟨C.store_all hr5 rfl int5_cells rfl fun w6 hu => ?_, trivial⟩
          refine ⟨⟨hu.fr.at_ hb5 (by simp; omega), hu.fr.at_ hx5 (by simp; omega)⟩, ?_⟩
          refine C.loadA_all hu.at_ rfl ?_
          have hg6 := hu.fr.at_ hg5 (by simp; omega)
          have e2 : stepO m i o k n = o + n := by unfold stepO; rw [if_neg k1, if_pos k2, if_neg (by omega)]
          have hfin := h w6 (((hf3.w.trans hf4.w).trans hf5).then hu.fr (by simp; omega)) (by rw [e1, e2, e3]; exact hg6)
          rw [e1, e2, e3] at hfin
          have e4 : i - o - n = i - (o + n) := by omega
          rw [e4]
          exact hfin
    · -- Spend
      refine F57.k9.to ?_
      try simp only [C.ite_true, C.ite_false, C.pick_true, C.pick_false, C.not_bool, C.field_ptr, C.nilCheck_ptr, C.add_mk, C.sub_mk, C.mul_mk, C.eql_mk, C.neq_mk, C.lss_mk, C.leq_mk, C.gtr_mk, C.geq_mk, C.conv_mk, C.len_mk, C.ext_0, C.ext_1, C.ext3_0, C.ext3_1, C.ext3_2, C.guarded_yes, C.guarded_tf, C.guarded_ft, C.guarded_undef, Bool.not_true, Bool.not_false, Nat.zero_add, eq_self, decide_true, decide_false]
      refine C.load1_of (v := .int .i64 n) hx3 rfl ?_
      try simp only [C.ite_true, C.ite_false, C.pick_true, C.pick_false, C.not_bool, C.field_ptr, C.nilCheck_ptr, C.add_mk, C.sub_mk, C.mul_mk, C.eql_mk, C.neq_mk, C.lss_mk, C.leq_mk, C.gtr_mk, C.geq_mk, C.conv_mk, C.len_mk, C.ext_0, C.ext_1, C.ext3_0, C.ext3_1, C.ext3_2, C.guarded_yes, C.guarded_tf, C.guarded_ft, C.guarded_undef, Bool.not_true, Bool.not_false, Nat.zero_add, eq_self, decide_true, decide_false]
      refine C.load1_of (v := .int .i64 (i - o)) hb3 rfl (Near_c _ _ _ ?_)
      refine C.draw_of (fun w' => w'.heap[b]? = some (bookB m i o l) ∧ w'.heap[x]? = some (.cells #[.int .i64 k, .int .i64 n] 34 (0, 0))) fun w4 hf4 he4 => ⟨by rw [he4]; exact ⟨hb3, hx3⟩, ?_⟩
      have hg4 := hf4.at_ hg3 (by simp)
      have hb4 := hf4.at_ hb3 (by simp)
      have hx4 := hf4.at_ hx3 (by simp)
      have hr4 := hf4.at_ hr3 (by simp)
      try simp only [C.ite_true, C.ite_false, C.pick_true, C.pick_false, C.not_bool, C.field_ptr, C.nilCheck_ptr, C.add_mk, C.sub_mk, C.mul_mk, C.eql_mk, C.neq_mk, C.lss_mk, C.leq_mk, C.gtr_mk, C.geq_mk, C.conv_mk, C.len_mk, C.ext_0, C.ext_1, C.ext3_0, C.ext3_1, C.ext3_2, C.guarded_yes, C.guarded_tf, C.guarded_ft, C.guarded_undef, Bool.not_true, Bool.not_false, Nat.zero_add, eq_self, decide_true, decide_false]
      refine C.load1S_of (v := .int .i64 m) (fun w' hw => ⟨_, _, _, hw.1, rfl⟩) (C.load1S_of (v := .int .i64 (i - o)) (fun w' hw => ⟨_, _, _, hw.1, rfl⟩) ?_)
      try simp only [C.ite_true, C.ite_false, C.pick_true, C.pick_false, C.not_bool, C.field_ptr, C.nilCheck_ptr, C.add_mk, C.sub_mk, C.mul_mk, C.eql_mk, C.neq_mk, C.lss_mk, C.leq_mk, C.gtr_mk, C.geq_mk, C.conv_mk, C.len_mk, C.ext_0, C.ext_1, C.ext3_0, C.ext3_1, C.ext3_2, C.guarded_yes, C.guarded_tf, C.guarded_ft, C.guarded_undef, Bool.not_true, Bool.not_false, Nat.zero_add, eq_self, decide_true, decide_false]
      refine C.load1S_of (v := .int .i64 i) (fun w' hw => ⟨_, _, _, hw.1, rfl⟩) (C.load1S_of (v := .int .i64 o) (fun w' hw => ⟨_, _, _, hw.1, rfl⟩) ?_)
      try simp only [C.ite_true, C.ite_false, C.pick_true, C.pick_false, C.not_bool, C.field_ptr, C.nilCheck_ptr, C.add_mk, C.sub_mk, C.mul_mk, C.eql_mk, C.neq_mk, C.lss_mk, C.leq_mk, C.gtr_mk, C.geq_mk, C.conv_mk, C.len_mk, C.ext_0, C.ext_1, C.ext3_0, C.ext3_1, C.ext3_2, C.guarded_yes, C.guarded_tf, C.guarded_ft, C.guarded_undef, Bool.not_true, Bool.not_false, Nat.zero_add, eq_self, decide_true, decide_false]
      refine C.load1S_of (v := .int .i64 l) (fun w' hw => ⟨_, _, _, hw.1, rfl⟩) ?_
      rw [wrap64_id (n := i - o - clamp n 0 (i - o)) (by omega), wrap64_id (n := o + clamp n 0 (i - o)) (by omega)]
      refine ⟨_, fun w' _ => build25 _ _ _ _ _, C.load1S_of (v := .int .i64 n) (fun w' hw => ⟨_, _, _, hw.2, rfl⟩) ⟨Spend_c n hg4 hk'.toBkOk fun w5 hf5 hg5 => ?_, trivial⟩⟩
      have hb5 := hf5.at_ hb4 (by simp; omega)
      have hx5 := hf5.at_ hx4 (by simp; omega)
      have hr5 := hf5.at_ hr4 (by simp; omega)
      refine ⟨⟨hb5, hx5⟩, ?_⟩
      try simp only [C.ite_true, C.ite_false, C.pick_true, C.pick_false, C.not_bool, C.field_ptr, C.nilCheck_ptr, C.add_mk, C.sub_mk, C.mul_mk, C.eql_mk, C.neq_mk, C.lss_mk, C.leq_mk, C.gtr_mk, C.geq_mk, C.conv_mk, C.len_mk, C.ext_0, C.ext_1, C.ext3_0, C.ext3_1, C.ext3_2, C.guarded_yes, C.guarded_tf, C.guarded_ft, C.guarded_undef, Bool.not_true, Bool.not_false, Nat.zero_add, eq_self, decide_true, decide_false]
      refine ⟨C.store_all hr5 rfl int5_cells rfl fun w6 hu => ?_, trivial⟩
      refine ⟨⟨hu.fr.at_ hb5 (by simp; omega), hu.fr.at_ hx5 (by simp; omega)⟩, ?_⟩
      refine C.loadA_all hu.at_ rfl ?_
      have hg6 := hu.fr.at_ hg5 (by simp; omega)
      have e2 : stepO m i o k n = o + clamp n 0 (i - o) := by unfold stepO; rw [if_neg k1, if_neg k2]
      have hfin := h w6 (((hf3.w.trans hf4.w).trans hf5).then hu.fr (by simp; omega)) (by rw [e1, e2, e3]; exact hg6)
      rw [e1, e2, e3] at hfin
      have e4 : i - o - clamp n 0 (i - o) = i - (o + clamp n 0 (i - o)) := by omega
      rw [e4]
      exact hfin
end
end Go.Proofs.YtckageghbhkklaaV
