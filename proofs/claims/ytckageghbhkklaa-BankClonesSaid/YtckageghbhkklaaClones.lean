/- BankClones: what the law's function comes to. -/
import Derived.Test.YtckageghbhkklaaBank3
import Derived.Test.YtckageghbhkklaaGClones
namespace Go.Proofs.YtckageghbhkklaaV
open Go Go.Proofs Go.RowKit
set_option linter.unusedVariables false
set_option linter.unusedSimpArgs false
section
variable {K : VK} {w : World}
theorem Clone_nil (h : K (.pointer none) w) : C.call Try.prog 34 #[.pointer none] w K := by
  refine F34.sh (is_nil ?_)
  simp only [C.ite_true, C.ite_false, C.pick_true, C.pick_false, C.not_bool, C.field_ptr, C.nilCheck_ptr, C.add_mk, C.sub_mk, C.mul_mk, C.eql_mk, C.neq_mk, C.lss_mk, C.leq_mk, C.gtr_mk, C.geq_mk, C.conv_mk, C.len_mk, C.ext_0, C.ext_1, C.ext3_0, C.ext3_1, C.ext3_2, C.guarded_yes, C.guarded_tf, C.guarded_ft, C.guarded_undef, Bool.not_true, Bool.not_false, Nat.zero_add, eq_self, decide_true, decide_false]
  exact h
theorem Clone_odd {g : Nat} {i o l m : Int} (hg : w.heap[g]? = some (bk i o l false m)) (h : K (.pointer none) w) : C.call Try.prog 34 #[.pointer (some ⟨g, 0, none⟩)] w K := by
  refine F34.sh (is_c hg ?_)
  simp only [C.ite_true, C.ite_false, C.pick_true, C.pick_false, C.not_bool, C.field_ptr, C.nilCheck_ptr, C.add_mk, C.sub_mk, C.mul_mk, C.eql_mk, C.neq_mk, C.lss_mk, C.leq_mk, C.gtr_mk, C.geq_mk, C.conv_mk, C.len_mk, C.ext_0, C.ext_1, C.ext3_0, C.ext3_1, C.ext3_2, C.guarded_yes, C.guarded_tf, C.guarded_ft, C.guarded_undef, Bool.not_true, Bool.not_false, Nat.zero_add, eq_self, decide_true, decide_false]
  exact h
theorem bk_cells {i o l m : Int} {made : Bool} : ∀ v ∈ (Value.agg #[.int .i64 i, .int .i64 o, .int .i64 l, .bool made, .int .i64 m]).cells.toList, v.oneCell' = true := by
  intro v hv
  simp only [Value.cells, List.mem_cons, List.not_mem_nil, or_false] at hv
  rcases hv with rfl | rfl | rfl | rfl | rfl <;> rfl
theorem Clone_c {g : Nat} {i o l m : Int} (hg : w.heap[g]? = some (bk i o l true m)) (h : ∀ c w', Fr [] w w' → w.heap.size ≤ c → w'.heap[c]? = some (bk i o l true m) → K (.pointer (some ⟨c, 0, none⟩)) w') : C.call Try.prog 34 #[.pointer (some ⟨g, 0, none⟩)] w K := by
  refine F34.sh (is_c hg ?_)
  simp only [C.ite_true, C.ite_false, C.pick_true, C.pick_false, C.not_bool, C.field_ptr, C.nilCheck_ptr, C.add_mk, C.sub_mk, C.mul_mk, C.eql_mk, C.neq_mk, C.lss_mk, C.leq_mk, C.gtr_mk, C.geq_mk, C.conv_mk, C.len_mk, C.ext_0, C.ext_1, C.ext3_0, C.ext3_1, C.ext3_2, C.guarded_yes, C.guarded_tf, C.guarded_ft, C.guarded_undef, Bool.not_true, Bool.not_false, Nat.zero_add, eq_self, decide_true, decide_false]
  refine F34.k3.to ?_
  simp only [C.ite_true, C.ite_false, C.pick_true, C.pick_false, C.not_bool, C.field_ptr, C.nilCheck_ptr, C.add_mk, C.sub_mk, C.mul_mk, C.eql_mk, C.neq_mk, C.lss_mk, C.leq_mk, C.gtr_mk, C.geq_mk, C.conv_mk, C.len_mk, C.ext_0, C.ext_1, C.ext3_0, C.ext3_1, C.ext3_2, C.guarded_yes, C.guarded_tf, C.guarded_ft, C.guarded_undef, Bool.not_true, Bool.not_false, Nat.zero_add, eq_self, decide_true, decide_false]
  refine C.loadA_all hg rfl (C.new_of fun c w1 hn => C.store_all (x := .agg #[.int .i64 i, .int .i64 o, .int .i64 l, .bool true, .int .i64 m]) hn.at_ rfl bk_cells rfl fun w2 hu => ?_)
  have lc : w.heap.size ≤ c := by have := hn.is; omega
  exact h c w2 (hn.fr.then hu.fr (by simp; omega)) lc hu.at_
/-- The flows of a bank that nobody made. -/
def noB : Obj := .cells #[.int .i64 0, .int .i64 0, .int .i64 0] 56 (0, 0)
theorem build56 : (Instr.build 56 #[]).run Try.prog w = .ok (.agg #[.int .i64 0, .int .i64 0, .int .i64 0]) w := by kernel_rfl
theorem build58_0 : (Instr.build 58 #[]).run Try.prog w = .ok (.agg #[.int .i64 0, .int .i64 0, .int .i64 0, .bool false, .int .i64 0]) w := by kernel_rfl
/-- Nobody made it: nil, or an odd one. -/
def Unmade (w : World) (p : Value) : Prop := p = .pointer none ∨ ∃ g, p = .pointer (some ⟨g, 0, none⟩) ∧ w.heap[g]? = some (bk 0 0 0 false 0)
theorem Unmade.keep {w w' : World} {p : Value} (h : Unmade w p) (hf : Fr [] w w') : Unmade w' p := by
  rcases h with h | ⟨g, h, hg⟩
  · exact .inl h
  · exact .inr ⟨g, h, hf.at_ hg (by simp)⟩
theorem is_un {p : Value} (hp : Unmade w p) (h : K (.bool false) w) : C.call Try.prog 59 #[p] w K := by
  rcases hp with rfl | ⟨g, rfl, hg⟩
  · exact is_nil h
  · exact is_c hg h
theorem own_un {p : Value} (hp : Unmade w p) (h : ∀ c w', Fr [] w w' → w'.heap[c]? = some noB → K (.pointer (some ⟨c, 0, none⟩)) w') : C.call Try.prog 60 #[p] w K := by
  refine F60.sh (is_un hp ?_)
  simp only [C.ite_true, C.ite_false, C.pick_true, C.pick_false, C.not_bool, C.field_ptr, C.nilCheck_ptr, C.add_mk, C.sub_mk, C.mul_mk, C.eql_mk, C.neq_mk, C.lss_mk, C.leq_mk, C.gtr_mk, C.geq_mk, C.conv_mk, C.len_mk, C.ext_0, C.ext_1, C.ext3_0, C.ext3_1, C.ext3_2, C.guarded_yes, C.guarded_tf, C.guarded_ft, C.guarded_undef, Bool.not_true, Bool.not_false, Nat.zero_add, eq_self, decide_true, decide_false]
  exact C.run_of build56 (C.new_of fun c w1 hn => h c w1 hn.fr hn.at_)
theorem Balance_un {p : Value} (hp : Unmade w p) (h : ∀ w', Fr [] w w' → K (.int .i64 0) w') : C.call Try.prog 22 #[p] w K := by
  refine F22.sh (own_un hp fun c w1 hf1 hc => F61.sh (C.draw_of (fun w' => w'.heap[c]? = some noB) fun w2 hf he => ⟨by rw [he]; exact hc, ?_⟩))
  simp only [C.ite_true, C.ite_false, C.pick_true, C.pick_false, C.not_bool, C.field_ptr, C.nilCheck_ptr, C.add_mk, C.sub_mk, C.mul_mk, C.eql_mk, C.neq_mk, C.lss_mk, C.leq_mk, C.gtr_mk, C.geq_mk, C.conv_mk, C.len_mk, C.ext_0, C.ext_1, C.ext3_0, C.ext3_1, C.ext3_2, C.guarded_yes, C.guarded_tf, C.guarded_ft, C.guarded_undef, Bool.not_true, Bool.not_false, Nat.zero_add, eq_self, decide_true, decide_false]
  refine C.load1S_of (v := .int .i64 0) (fun w' hw => ⟨_, _, _, hw, rfl⟩) (C.load1S_of (v := .int .i64 0) (fun w' hw => ⟨_, _, _, hw, rfl⟩) ?_)
  simp only [C.ite_true, C.ite_false, C.pick_true, C.pick_false, C.not_bool, C.field_ptr, C.nilCheck_ptr, C.add_mk, C.sub_mk, C.mul_mk, C.eql_mk, C.neq_mk, C.lss_mk, C.leq_mk, C.gtr_mk, C.geq_mk, C.conv_mk, C.len_mk, C.ext_0, C.ext_1, C.ext3_0, C.ext3_1, C.ext3_2, C.guarded_yes, C.guarded_tf, C.guarded_ft, C.guarded_undef, Bool.not_true, Bool.not_false, Nat.zero_add, eq_self, decide_true, decide_false]
  exact h w2 (hf1.trans hf)
theorem In_un {p : Value} (hp : Unmade w p) (h : ∀ w', Fr [] w w' → K (.int .i64 0) w') : C.call Try.prog 23 #[p] w K := by
  refine F23.sh (own_un hp fun c w1 hf1 hc => F62.sh ?_)
  simp only [C.ite_true, C.ite_false, C.pick_true, C.pick_false, C.not_bool, C.field_ptr, C.nilCheck_ptr, C.add_mk, C.sub_mk, C.mul_mk, C.eql_mk, C.neq_mk, C.lss_mk, C.leq_mk, C.gtr_mk, C.geq_mk, C.conv_mk, C.len_mk, C.ext_0, C.ext_1, C.ext3_0, C.ext3_1, C.ext3_2, C.guarded_yes, C.guarded_tf, C.guarded_ft, C.guarded_undef, Bool.not_true, Bool.not_false, Nat.zero_add, eq_self, decide_true, decide_false]
  exact C.load1_of (v := .int .i64 0) hc rfl (h w1 hf1)
theorem Out_un {p : Value} (hp : Unmade w p) (h : ∀ w', Fr [] w w' → K (.int .i64 0) w') : C.call Try.prog 24 #[p] w K := by
  refine F24.sh (own_un hp fun c w1 hf1 hc => F63.sh ?_)
  simp only [C.ite_true, C.ite_false, C.pick_true, C.pick_false, C.not_bool, C.field_ptr, C.nilCheck_ptr, C.add_mk, C.sub_mk, C.mul_mk, C.eql_mk, C.neq_mk, C.lss_mk, C.leq_mk, C.gtr_mk, C.geq_mk, C.conv_mk, C.len_mk, C.ext_0, C.ext_1, C.ext3_0, C.ext3_1, C.ext3_2, C.guarded_yes, C.guarded_tf, C.guarded_ft, C.guarded_undef, Bool.not_true, Bool.not_false, Nat.zero_add, eq_self, decide_true, decide_false]
  exact C.load1_of (v := .int .i64 0) hc rfl (h w1 hf1)
theorem Lost_un {p : Value} (hp : Unmade w p) (h : ∀ w', Fr [] w w' → K (.int .i64 0) w') : C.call Try.prog 25 #[p] w K := by
  refine F25.sh (own_un hp fun c w1 hf1 hc => F64.sh ?_)
  simp only [C.ite_true, C.ite_false, C.pick_true, C.pick_false, C.not_bool, C.field_ptr, C.nilCheck_ptr, C.add_mk, C.sub_mk, C.mul_mk, C.eql_mk, C.neq_mk, C.lss_mk, C.leq_mk, C.gtr_mk, C.geq_mk, C.conv_mk, C.len_mk, C.ext_0, C.ext_1, C.ext3_0, C.ext3_1, C.ext3_2, C.guarded_yes, C.guarded_tf, C.guarded_ft, C.guarded_undef, Bool.not_true, Bool.not_false, Nat.zero_add, eq_self, decide_true, decide_false]
  exact C.load1_of (v := .int .i64 0) hc rfl (h w1 hf1)
theorem Put_un {p : Value} (n : Int) (hp : Unmade w p) (h : K (.int .i64 0) w) : C.call Try.prog 19 #[p, .int .i64 n] w K := by
  refine F19.sh (is_un hp ?_)
  simp only [C.ite_true, C.ite_false, C.pick_true, C.pick_false, C.not_bool, C.field_ptr, C.nilCheck_ptr, C.add_mk, C.sub_mk, C.mul_mk, C.eql_mk, C.neq_mk, C.lss_mk, C.leq_mk, C.gtr_mk, C.geq_mk, C.conv_mk, C.len_mk, C.ext_0, C.ext_1, C.ext3_0, C.ext3_1, C.ext3_2, C.guarded_yes, C.guarded_tf, C.guarded_ft, C.guarded_undef, Bool.not_true, Bool.not_false, Nat.zero_add, eq_self, decide_true, decide_false]
  exact h
theorem Spend_un {p : Value} (n : Int) (hp : Unmade w p) (h : K (.int .i64 0) w) : C.call Try.prog 21 #[p, .int .i64 n] w K := by
  refine F21.sh (is_un hp ?_)
  simp only [C.ite_true, C.ite_false, C.pick_true, C.pick_false, C.not_bool, C.field_ptr, C.nilCheck_ptr, C.add_mk, C.sub_mk, C.mul_mk, C.eql_mk, C.neq_mk, C.lss_mk, C.leq_mk, C.gtr_mk, C.geq_mk, C.conv_mk, C.len_mk, C.ext_0, C.ext_1, C.ext3_0, C.ext3_1, C.ext3_2, C.guarded_yes, C.guarded_tf, C.guarded_ft, C.guarded_undef, Bool.not_true, Bool.not_false, Nat.zero_add, eq_self, decide_true, decide_false]
  exact h
theorem Take_un {p : Value} (n : Int) (hp : Unmade w p) (h : K (.bool false) w) : C.call Try.prog 20 #[p, .int .i64 n] w K := by
  refine F20.sh (is_un hp ?_)
  simp only [C.ite_true, C.ite_false, C.pick_true, C.pick_false, C.not_bool, C.field_ptr, C.nilCheck_ptr, C.add_mk, C.sub_mk, C.mul_mk, C.eql_mk, C.neq_mk, C.lss_mk, C.leq_mk, C.gtr_mk, C.geq_mk, C.conv_mk, C.len_mk, C.ext_0, C.ext_1, C.ext3_0, C.ext3_1, C.ext3_2, C.guarded_yes, C.guarded_tf, C.guarded_ft, C.guarded_undef, Bool.not_true, Bool.not_false, Nat.zero_add, eq_self, decide_true, decide_false]
  exact h
theorem Clone_un {p : Value} (hp : Unmade w p) (h : K (.pointer none) w) : C.call Try.prog 34 #[p] w K := by
  refine F34.sh (is_un hp ?_)
  simp only [C.ite_true, C.ite_false, C.pick_true, C.pick_false, C.not_bool, C.field_ptr, C.nilCheck_ptr, C.add_mk, C.sub_mk, C.mul_mk, C.eql_mk, C.neq_mk, C.lss_mk, C.leq_mk, C.gtr_mk, C.geq_mk, C.conv_mk, C.len_mk, C.ext_0, C.ext_1, C.ext3_0, C.ext3_1, C.ext3_2, C.guarded_yes, C.guarded_tf, C.guarded_ft, C.guarded_undef, Bool.not_true, Bool.not_false, Nat.zero_add, eq_self, decide_true, decide_false]
  exact h
/-- A run of a script, in each order that its parts may take. -/
theorem orders3 {W0 : World} {Q : World → Prop} {g bm : Nat} {m B : Int} {s s0 : St} {v : Value} {l : List (Int × Int)} {Z : Value → Value → World → Prop} (hQ : ∀ w', Q w' ↔ w'.heap[bm]? = some (bookB m s0.i s0.o s0.l)) (hf0 : Fr [] W0 w) (hg0 : W0.heap.size ≤ g) (hbm0 : bm ≠ g) (hv : RdS W0 v 2 (opsC l))
    (hg : w.heap[g]? = some (bk s.i s.o s.l true m)) (hb : w.heap[bm]? = some (bookB m s0.i s0.o s0.l)) (hss : s = s0) (hk : BkIn B s.i s.o s.l m) (hB : B + 2147483648 * 60 ≤ 1000000000000000000)
    (hZ : ∀ c w', Fr [g] w w' → w.heap.size ≤ c → w'.heap[g]? = some (bk (runS m s (l.take 60)).i (runS m s (l.take 60)).o (runS m s (l.take 60)).l true m) → w'.heap[c]? = some (bookB m (runS m s (l.take 60)).i (runS m s (l.take 60)).o (runS m s (l.take 60)).l) → Z (.pointer (some ⟨c, 0, none⟩)) (.bool true) w') :
    (C.call Try.prog 18 #[v] w fun x39_19 w19 => (Q w19 ∧ (C.call Try.prog 15 #[.pointer (some ⟨g, 0, none⟩), bookV m s0.i s0.o s0.l, x39_19] w19 fun x40_25 w25 => (Q w25 ∧ C.ext 0 x40_25 w25 fun x41_26 w26 => C.ext 1 x40_25 w26 fun x42_27 w27 =>
      (C.new (.cells #[.int .i64 0, .int .i64 0, .int .i64 0, .int .i64 0, .int .i64 0] 25) w27 fun x13_28 w28 => (Q w28 ∧ (C.store 5 x13_28 x41_26 w28 fun w29 => (Q w29 ∧ Z x13_28 x42_27 w29)) ∧ True)) ∧ True)) ∧
      ((C.new (.cells #[.int .i64 0, .int .i64 0, .int .i64 0, .int .i64 0, .int .i64 0] 25) w19 fun x13_20 w20 => (Q w20 ∧ (C.call Try.prog 15 #[.pointer (some ⟨g, 0, none⟩), bookV m s0.i s0.o s0.l, x39_19] w20 fun x40_21 w21 => (Q w21 ∧ C.ext 0 x40_21 w21 fun x41_22 w22 => C.ext 1 x40_21 w22 fun x42_23 w23 =>
      (C.store 5 x13_20 x41_22 w23 fun w24 => (Q w24 ∧ Z x13_20 x42_23 w24)) ∧ True)) ∧ True)) ∧ True))) ∧
    ((C.new (.cells #[.int .i64 0, .int .i64 0, .int .i64 0, .int .i64 0, .int .i64 0] 25) w fun x13_13 w13 => (Q w13 ∧ (C.call Try.prog 18 #[v] w13 fun x39_14 w14 => (Q w14 ∧ (C.call Try.prog 15 #[.pointer (some ⟨g, 0, none⟩), bookV m s0.i s0.o s0.l, x39_14] w14 fun x40_15 w15 => (Q w15 ∧
      C.ext 0 x40_15 w15 fun x41_16 w16 => C.ext 1 x40_15 w16 fun x42_17 w17 => (C.store 5 x13_13 x41_16 w17 fun w18 => (Q w18 ∧ Z x13_13 x42_17 w18)) ∧ True)) ∧ True)) ∧ True)) ∧ True) := by
  subst hss
  have lg := lt_of_at hg
  have hlen : (l.take 60).length ≤ 60 := by rw [List.length_take]; omega
  have hrd : ∀ {v'} {w1 : World}, RdS W0 v' 2 (opsC (l.take 60)) → Fr [] W0 w1 → ∀ w', Fr [g] w1 w' → RdS w' v' 2 (opsC (l.take 60)) := fun hv' h1 w' hf => hv'.keep (h1.then hf fun x hx => by simp only [List.mem_singleton] at hx; exact .inr (by omega))
  have lbm := lt_of_at hb
  refine ⟨few_c hv fun v' hv' => ⟨(hQ _).2 hb, run_c s hg hk (hrd hv' hf0) (by omega) fun w1 hf1 hg1 => ?_, ?_⟩, ?_⟩
  · have hb1 := hf1.at_ hb (by simpa using hbm0)
    refine ⟨(hQ _).2 hb1, ?_⟩
    try simp only [C.ite_true, C.ite_false, C.pick_true, C.pick_false, C.not_bool, C.field_ptr, C.nilCheck_ptr, C.add_mk, C.sub_mk, C.mul_mk, C.eql_mk, C.neq_mk, C.lss_mk, C.leq_mk, C.gtr_mk, C.geq_mk, C.conv_mk, C.len_mk, C.ext_0, C.ext_1, C.ext3_0, C.ext3_1, C.ext3_2, C.guarded_yes, C.guarded_tf, C.guarded_ft, C.guarded_undef, Bool.not_true, Bool.not_false, Nat.zero_add, eq_self, decide_true, decide_false]
    refine ⟨C.new_of fun c w2 hn2 => ⟨(hQ _).2 (hn2.fr.at_ hb1 (by simp)), C.store_all hn2.at_ rfl int5_cells rfl fun w3 hu => ⟨(hQ _).2 (hu.fr.at_ (hn2.fr.at_ hb1 (by simp)) (by have := hn2.is; have := hf1.size; simp; omega)), ?_⟩, trivial⟩, trivial⟩
    have lc : w.heap.size ≤ c := by have := hn2.is; have := hf1.size; omega
    exact hZ c w3 ((hf1.trans hn2.fr.w).then hu.fr (by simp; omega)) lc (hu.fr.at_ (hn2.fr.at_ hg1 (by simp)) (by simp; omega)) hu.at_
  · refine ⟨C.new_of fun c w1 hn1 => ?_, trivial⟩
    have lc : w.heap.size ≤ c := by have := hn1.is; omega
    have hb1 := hn1.fr.at_ hb (by simp)
    refine ⟨(hQ _).2 hb1, run_c s (hn1.fr.at_ hg (by simp)) hk (hrd hv' (hf0.trans hn1.fr)) (by omega) fun w2 hf2 hg2 => ?_, trivial⟩
    have hb2 := hf2.at_ hb1 (by simpa using hbm0)
    refine ⟨(hQ _).2 hb2, ?_⟩
    try simp only [C.ite_true, C.ite_false, C.pick_true, C.pick_false, C.not_bool, C.field_ptr, C.nilCheck_ptr, C.add_mk, C.sub_mk, C.mul_mk, C.eql_mk, C.neq_mk, C.lss_mk, C.leq_mk, C.gtr_mk, C.geq_mk, C.conv_mk, C.len_mk, C.ext_0, C.ext_1, C.ext3_0, C.ext3_1, C.ext3_2, C.guarded_yes, C.guarded_tf, C.guarded_ft, C.guarded_undef, Bool.not_true, Bool.not_false, Nat.zero_add, eq_self, decide_true, decide_false]
    refine ⟨C.store_all (hf2.at_ hn1.at_ (by simp; omega)) rfl int5_cells rfl fun w3 hu => ⟨(hQ _).2 (hu.fr.at_ hb2 (by simp; omega)), ?_⟩, trivial⟩
    exact hZ c w3 ((hn1.fr.w.trans hf2).then hu.fr (by simp; omega)) lc (hu.fr.at_ hg2 (by simp; omega)) hu.at_
  · refine ⟨C.new_of fun c w1 hn1 => ?_, trivial⟩
    have lc : w.heap.size ≤ c := by have := hn1.is; omega
    have hb1 := hn1.fr.at_ hb (by simp)
    refine ⟨(hQ _).2 hb1, few_c hv fun v' hv' => ⟨(hQ _).2 hb1, run_c s (hn1.fr.at_ hg (by simp)) hk (hrd hv' (hf0.trans hn1.fr)) (by omega) fun w2 hf2 hg2 => ?_, trivial⟩, trivial⟩
    have hb2 := hf2.at_ hb1 (by simpa using hbm0)
    refine ⟨(hQ _).2 hb2, ?_⟩
    try simp only [C.ite_true, C.ite_false, C.pick_true, C.pick_false, C.not_bool, C.field_ptr, C.nilCheck_ptr, C.add_mk, C.sub_mk, C.mul_mk, C.eql_mk, C.neq_mk, C.lss_mk, C.leq_mk, C.gtr_mk, C.geq_mk, C.conv_mk, C.len_mk, C.ext_0, C.ext_1, C.ext3_0, C.ext3_1, C.ext3_2, C.guarded_yes, C.guarded_tf, C.guarded_ft, C.guarded_undef, Bool.not_true, Bool.not_false, Nat.zero_add, eq_self, decide_true, decide_false]
    refine ⟨C.store_all (hf2.at_ hn1.at_ (by simp; omega)) rfl int5_cells rfl fun w3 hu => ⟨(hQ _).2 (hu.fr.at_ hb2 (by simp; omega)), ?_⟩, trivial⟩
    exact hZ c w3 ((hn1.fr.w.trans hf2).then hu.fr (by simp; omega)) lc (hu.fr.at_ hg2 (by simp; omega)) hu.at_
/-- What is asked at last. -/
def last8P (K : VK) (y9 y11 y12 y13 y14 y15 y16 : Value) (w : World) : Prop :=
    C.run Try.prog (Instr.build 58 #[]) w fun x51_160 w160 =>
      C.new (.cells (Value.cells x51_160) 58) w160 fun x52_161 w161 =>
      C.guarded true y11 (fun K => K y14 w161) w161 fun x55_162 w162 =>
      C.pick (some y11) (some x55_162) (some (.bool false)) w162 fun x56_163 w163 =>
      C.guarded true x56_163 (fun K => K y16 w163) w163 fun x58_164 w164 =>
      C.pick (some x56_163) (some x58_164) (some (.bool false)) w164 fun x59_165 w165 =>
      C.guarded true x59_165 (fun K => K y9 w165) w165 fun x61_166 w166 =>
      C.guarded true x59_165 (fun K => C.loadA 5 y13 w166 K) w166 fun x62_167 w167 =>
      C.guarded true x59_165 (fun K => C.call Try.prog 35 #[x61_166, x62_167] w167 K) w167 fun x63_168 w168 =>
      C.pick (some x59_165) (some x63_168) (some (.bool false)) w168 fun x64_169 w169 =>
      C.guarded true x64_169 (fun K => K y12 w169) w169 fun x66_170 w170 =>
      C.guarded true x64_169 (fun K => C.loadA 5 y15 w170 K) w170 fun x67_171 w171 =>
      C.guarded true x64_169 (fun K => C.call Try.prog 35 #[x66_170, x67_171] w171 K) w171 fun x68_172 w172 =>
      C.pick (some x64_169) (some x68_172) (some (.bool false)) w172 fun x69_173 w173 =>
      C.guarded true x69_173 (fun K => K (.pointer none) w173) w173 fun x71_174 w174 =>
      C.guarded true x69_173 (fun K => C.call Try.prog 19 #[x71_174, (.int .i64 1)] w174 K) w174 fun x72_175 w175 =>
      C.guarded true x69_173 (fun K => C.int .eql x72_175 (.int .i64 0) w175 K) w175 fun x73_176 w176 =>
      C.pick (some x69_173) (some x73_176) (some (.bool false)) w176 fun x74_177 w177 =>
      C.guarded true x74_177 (fun K => K x52_161 w177) w177 fun x76_178 w178 =>
      C.guarded true x74_177 (fun K => C.call Try.prog 19 #[x76_178, (.int .i64 1)] w178 K) w178 fun x77_179 w179 =>
      C.guarded true x74_177 (fun K => C.int .eql x77_179 (.int .i64 0) w179 K) w179 fun x78_180 w180 =>
      C.pick (some x74_177) (some x78_180) (some (.bool false)) w180 fun x79_181 w181 =>
      C.guarded true x79_181 (fun K => K (.pointer none) w181) w181 fun x81_182 w182 =>
      C.guarded true x79_181 (fun K => C.call Try.prog 20 #[x81_182, (.int .i64 0)] w182 K) w182 fun x82_183 w183 =>
      C.guarded true x79_181 (fun K => C.not x82_183 w183 K) w183 fun x83_184 w184 =>
      C.pick (some x79_181) (some x83_184) (some (.bool false)) w184 fun x84_185 w185 =>
      C.guarded true x84_185 (fun K => K x52_161 w185) w185 fun x86_186 w186 =>
      C.guarded true x84_185 (fun K => C.call Try.prog 20 #[x86_186, (.int .i64 0)] w186 K) w186 fun x87_187 w187 =>
      C.guarded true x84_185 (fun K => C.not x87_187 w187 K) w187 fun x88_188 w188 =>
      C.pick (some x84_185) (some x88_188) (some (.bool false)) w188 fun x89_189 w189 =>
      C.guarded true x89_189 (fun K => K (.pointer none) w189) w189 fun x91_190 w190 =>
      C.guarded true x89_189 (fun K => C.call Try.prog 21 #[x91_190, (.int .i64 1)] w190 K) w190 fun x92_191 w191 =>
      C.guarded true x89_189 (fun K => C.int .eql x92_191 (.int .i64 0) w191 K) w191 fun x93_192 w192 =>
      C.pick (some x89_189) (some x93_192) (some (.bool false)) w192 fun x94_193 w193 =>
      C.guarded true x94_193 (fun K => K x52_161 w193) w193 fun x96_194 w194 =>
      C.guarded true x94_193 (fun K => C.call Try.prog 21 #[x96_194, (.int .i64 1)] w194 K) w194 fun x97_195 w195 =>
      C.guarded true x94_193 (fun K => C.int .eql x97_195 (.int .i64 0) w195 K) w195 fun x98_196 w196 =>
      C.pick (some x94_193) (some x98_196) (some (.bool false)) w196 fun x99_197 w197 =>
      C.guarded true x99_197 (fun K => K (.pointer none) w197) w197 fun x101_198 w198 =>
      C.guarded true x99_197 (fun K => C.call Try.prog 22 #[x101_198] w198 K) w198 fun x102_199 w199 =>
      C.guarded true x99_197 (fun K => C.int .eql x102_199 (.int .i64 0) w199 K) w199 fun x103_200 w200 =>
      C.pick (some x99_197) (some x103_200) (some (.bool false)) w200 fun x104_201 w201 =>
      C.guarded true x104_201 (fun K => K x52_161 w201) w201 fun x106_202 w202 =>
      C.guarded true x104_201 (fun K => C.call Try.prog 22 #[x106_202] w202 K) w202 fun x107_203 w203 =>
      C.guarded true x104_201 (fun K => C.int .eql x107_203 (.int .i64 0) w203 K) w203 fun x108_204 w204 =>
      C.pick (some x104_201) (some x108_204) (some (.bool false)) w204 fun x109_205 w205 =>
      C.guarded true x109_205 (fun K => K (.pointer none) w205) w205 fun x111_206 w206 =>
      C.guarded true x109_205 (fun K => C.call Try.prog 23 #[x111_206] w206 K) w206 fun x112_207 w207 =>
      C.guarded true x109_205 (fun K => C.int .eql x112_207 (.int .i64 0) w207 K) w207 fun x113_208 w208 =>
      C.pick (some x109_205) (some x113_208) (some (.bool false)) w208 fun x114_209 w209 =>
      C.guarded true x114_209 (fun K => K (.pointer none) w209) w209 fun x116_210 w210 =>
      C.guarded true x114_209 (fun K => C.call Try.prog 24 #[x116_210] w210 K) w210 fun x117_211 w211 =>
      C.guarded true x114_209 (fun K => C.int .eql x117_211 (.int .i64 0) w211 K) w211 fun x118_212 w212 =>
      C.pick (some x114_209) (some x118_212) (some (.bool false)) w212 fun x119_213 w213 =>
      C.guarded true x119_213 (fun K => K (.pointer none) w213) w213 fun x121_214 w214 =>
      C.guarded true x119_213 (fun K => C.call Try.prog 25 #[x121_214] w214 K) w214 fun x122_215 w215 =>
      C.guarded true x119_213 (fun K => C.int .eql x122_215 (.int .i64 0) w215 K) w215 fun x123_216 w216 =>
      C.pick (some x119_213) (some x123_216) (some (.bool false)) w216 fun x124_217 w217 =>
      C.guarded true x124_217 (fun K => K x52_161 w217) w217 fun x126_218 w218 =>
      C.guarded true x124_217 (fun K => C.call Try.prog 25 #[x126_218] w218 K) w218 fun x127_219 w219 =>
      C.guarded true x124_217 (fun K => C.int .eql x127_219 (.int .i64 0) w219 K) w219 fun x128_220 w220 =>
      C.pick (some x124_217) (some x128_220) (some (.bool false)) w220 fun x129_221 w221 =>
      C.guarded true x129_221 (fun K => K (.pointer none) w221) w221 fun x131_222 w222 =>
      C.guarded true x129_221 (fun K => C.call Try.prog 34 #[x131_222] w222 K) w222 fun x132_223 w223 =>
      C.guarded true x129_221 (fun K => C.bin Try.prog .eql 28 (.tmp 132) (.const (.pointer none)) x132_223 (.pointer none) w223 K) w223 fun x133_224 w224 =>
      C.pick (some x129_221) (some x133_224) (some (.bool false)) w224 fun x134_225 w225 =>
      C.guarded true x134_225 (fun K => K x52_161 w225) w225 fun x136_226 w226 =>
      C.guarded true x134_225 (fun K => C.call Try.prog 34 #[x136_226] w226 K) w226 fun x137_227 w227 =>
      C.guarded true x134_225 (fun K => C.bin Try.prog .eql 28 (.tmp 137) (.const (.pointer none)) x137_227 (.pointer none) w227 K) w227 fun x138_228 w228 =>
      C.pick (some x134_225) (some x138_228) (some (.bool false)) w228 fun x139_229 w229 =>
      K x139_229 w229
theorem last8 {g k bx by_ : Nat} {m B B' : Int} {s s' : St} {y9 y11 y12 y13 y14 y15 y16 : Value} (e9 : y9 = .pointer (some ⟨g, 0, none⟩)) (e12 : y12 = .pointer (some ⟨k, 0, none⟩)) (e13 : y13 = .pointer (some ⟨bx, 0, none⟩)) (e15 : y15 = .pointer (some ⟨by_, 0, none⟩)) (e11 : y11 = .bool true) (e14 : y14 = .bool true) (e16 : y16 = .bool true)
    (hg : w.heap[g]? = some (bk s.i s.o s.l true m)) (hkk : w.heap[k]? = some (bk s'.i s'.o s'.l true m)) (hx : w.heap[bx]? = some (bookB m s.i s.o s.l)) (hy : w.heap[by_]? = some (bookB m s'.i s'.o s'.l)) (h1 : BkOk s.i s.o s.l m) (h2 : BkOk s'.i s'.o s'.l m) (h : ∀ w', Fr [] w w' → K (.bool true) w') :
    last8P K y9 y11 y12 y13 y14 y15 y16 w := by
  unfold last8P
  subst e9 e12 e13 e15 e11 e14 e16
  refine C.run_of build58_0 (C.new_of fun q w1 hn => ?_)
  have u0 : ∀ {w' : World}, Unmade w' (.pointer none) := .inl rfl
  have u1 : Unmade w1 (.pointer (some ⟨q, 0, none⟩)) := .inr ⟨q, rfl, hn.at_⟩
  have f1 := hn.fr
  try simp only [C.ite_true, C.ite_false, C.pick_true, C.pick_false, C.not_bool, C.field_ptr, C.nilCheck_ptr, C.add_mk, C.sub_mk, C.mul_mk, C.eql_mk, C.neq_mk, C.lss_mk, C.leq_mk, C.gtr_mk, C.geq_mk, C.conv_mk, C.len_mk, C.ext_0, C.ext_1, C.ext3_0, C.ext3_1, C.ext3_2, C.guarded_yes, C.guarded_tf, C.guarded_ft, C.guarded_undef, Bool.not_true, Bool.not_false, Nat.zero_add, eq_self, decide_true, decide_false]
  refine C.loadA_all (f1.at_ hx (by simp)) rfl (told_c (f1.at_ hg (by simp)) h1 fun w2 g2 => ?_)
  have f2 := f1.trans g2
  try simp only [C.ite_true, C.ite_false, C.pick_true, C.pick_false, C.not_bool, C.field_ptr, C.nilCheck_ptr, C.add_mk, C.sub_mk, C.mul_mk, C.eql_mk, C.neq_mk, C.lss_mk, C.leq_mk, C.gtr_mk, C.geq_mk, C.conv_mk, C.len_mk, C.ext_0, C.ext_1, C.ext3_0, C.ext3_1, C.ext3_2, C.guarded_yes, C.guarded_tf, C.guarded_ft, C.guarded_undef, Bool.not_true, Bool.not_false, Nat.zero_add, eq_self, decide_true, decide_false]
  refine C.loadA_all (f2.at_ hy (by simp)) rfl (told_c (f2.at_ hkk (by simp)) h2 fun w3 g3 => ?_)
  have u3 := u1.keep (g2.trans g3)
  have f3 := f2.trans g3
  try simp only [C.ite_true, C.ite_false, C.pick_true, C.pick_false, C.not_bool, C.field_ptr, C.nilCheck_ptr, C.add_mk, C.sub_mk, C.mul_mk, C.eql_mk, C.neq_mk, C.lss_mk, C.leq_mk, C.gtr_mk, C.geq_mk, C.conv_mk, C.len_mk, C.ext_0, C.ext_1, C.ext3_0, C.ext3_1, C.ext3_2, C.guarded_yes, C.guarded_tf, C.guarded_ft, C.guarded_undef, Bool.not_true, Bool.not_false, Nat.zero_add, eq_self, decide_true, decide_false]
  refine Put_un 1 u0 ?_
  try simp only [C.ite_true, C.ite_false, C.pick_true, C.pick_false, C.not_bool, C.field_ptr, C.nilCheck_ptr, C.add_mk, C.sub_mk, C.mul_mk, C.eql_mk, C.neq_mk, C.lss_mk, C.leq_mk, C.gtr_mk, C.geq_mk, C.conv_mk, C.len_mk, C.ext_0, C.ext_1, C.ext3_0, C.ext3_1, C.ext3_2, C.guarded_yes, C.guarded_tf, C.guarded_ft, C.guarded_undef, Bool.not_true, Bool.not_false, Nat.zero_add, eq_self, decide_true, decide_false]
  refine Put_un 1 u3 ?_
  try simp only [C.ite_true, C.ite_false, C.pick_true, C.pick_false, C.not_bool, C.field_ptr, C.nilCheck_ptr, C.add_mk, C.sub_mk, C.mul_mk, C.eql_mk, C.neq_mk, C.lss_mk, C.leq_mk, C.gtr_mk, C.geq_mk, C.conv_mk, C.len_mk, C.ext_0, C.ext_1, C.ext3_0, C.ext3_1, C.ext3_2, C.guarded_yes, C.guarded_tf, C.guarded_ft, C.guarded_undef, Bool.not_true, Bool.not_false, Nat.zero_add, eq_self, decide_true, decide_false]
  refine Take_un 0 u0 ?_
  try simp only [C.ite_true, C.ite_false, C.pick_true, C.pick_false, C.not_bool, C.field_ptr, C.nilCheck_ptr, C.add_mk, C.sub_mk, C.mul_mk, C.eql_mk, C.neq_mk, C.lss_mk, C.leq_mk, C.gtr_mk, C.geq_mk, C.conv_mk, C.len_mk, C.ext_0, C.ext_1, C.ext3_0, C.ext3_1, C.ext3_2, C.guarded_yes, C.guarded_tf, C.guarded_ft, C.guarded_undef, Bool.not_true, Bool.not_false, Nat.zero_add, eq_self, decide_true, decide_false]
  refine Take_un 0 u3 ?_
  try simp only [C.ite_true, C.ite_false, C.pick_true, C.pick_false, C.not_bool, C.field_ptr, C.nilCheck_ptr, C.add_mk, C.sub_mk, C.mul_mk, C.eql_mk, C.neq_mk, C.lss_mk, C.leq_mk, C.gtr_mk, C.geq_mk, C.conv_mk, C.len_mk, C.ext_0, C.ext_1, C.ext3_0, C.ext3_1, C.ext3_2, C.guarded_yes, C.guarded_tf, C.guarded_ft, C.guarded_undef, Bool.not_true, Bool.not_false, Nat.zero_add, eq_self, decide_true, decide_false]
  refine Spend_un 1 u0 ?_
  try simp only [C.ite_true, C.ite_false, C.pick_true, C.pick_false, C.not_bool, C.field_ptr, C.nilCheck_ptr, C.add_mk, C.sub_mk, C.mul_mk, C.eql_mk, C.neq_mk, C.lss_mk, C.leq_mk, C.gtr_mk, C.geq_mk, C.conv_mk, C.len_mk, C.ext_0, C.ext_1, C.ext3_0, C.ext3_1, C.ext3_2, C.guarded_yes, C.guarded_tf, C.guarded_ft, C.guarded_undef, Bool.not_true, Bool.not_false, Nat.zero_add, eq_self, decide_true, decide_false]
  refine Spend_un 1 u3 ?_
  try simp only [C.ite_true, C.ite_false, C.pick_true, C.pick_false, C.not_bool, C.field_ptr, C.nilCheck_ptr, C.add_mk, C.sub_mk, C.mul_mk, C.eql_mk, C.neq_mk, C.lss_mk, C.leq_mk, C.gtr_mk, C.geq_mk, C.conv_mk, C.len_mk, C.ext_0, C.ext_1, C.ext3_0, C.ext3_1, C.ext3_2, C.guarded_yes, C.guarded_tf, C.guarded_ft, C.guarded_undef, Bool.not_true, Bool.not_false, Nat.zero_add, eq_self, decide_true, decide_false]
  refine Balance_un u0 fun w4 g4 => ?_
  try simp only [C.ite_true, C.ite_false, C.pick_true, C.pick_false, C.not_bool, C.field_ptr, C.nilCheck_ptr, C.add_mk, C.sub_mk, C.mul_mk, C.eql_mk, C.neq_mk, C.lss_mk, C.leq_mk, C.gtr_mk, C.geq_mk, C.conv_mk, C.len_mk, C.ext_0, C.ext_1, C.ext3_0, C.ext3_1, C.ext3_2, C.guarded_yes, C.guarded_tf, C.guarded_ft, C.guarded_undef, Bool.not_true, Bool.not_false, Nat.zero_add, eq_self, decide_true, decide_false]
  refine Balance_un (u3.keep g4) fun w5 g5 => ?_
  try simp only [C.ite_true, C.ite_false, C.pick_true, C.pick_false, C.not_bool, C.field_ptr, C.nilCheck_ptr, C.add_mk, C.sub_mk, C.mul_mk, C.eql_mk, C.neq_mk, C.lss_mk, C.leq_mk, C.gtr_mk, C.geq_mk, C.conv_mk, C.len_mk, C.ext_0, C.ext_1, C.ext3_0, C.ext3_1, C.ext3_2, C.guarded_yes, C.guarded_tf, C.guarded_ft, C.guarded_undef, Bool.not_true, Bool.not_false, Nat.zero_add, eq_self, decide_true, decide_false]
  refine In_un u0 fun w6 g6 => ?_
  try simp only [C.ite_true, C.ite_false, C.pick_true, C.pick_false, C.not_bool, C.field_ptr, C.nilCheck_ptr, C.add_mk, C.sub_mk, C.mul_mk, C.eql_mk, C.neq_mk, C.lss_mk, C.leq_mk, C.gtr_mk, C.geq_mk, C.conv_mk, C.len_mk, C.ext_0, C.ext_1, C.ext3_0, C.ext3_1, C.ext3_2, C.guarded_yes, C.guarded_tf, C.guarded_ft, C.guarded_undef, Bool.not_true, Bool.not_false, Nat.zero_add, eq_self, decide_true, decide_false]
  refine Out_un u0 fun w7 g7 => ?_
  try simp only [C.ite_true, C.ite_false, C.pick_true, C.pick_false, C.not_bool, C.field_ptr, C.nilCheck_ptr, C.add_mk, C.sub_mk, C.mul_mk, C.eql_mk, C.neq_mk, C.lss_mk, C.leq_mk, C.gtr_mk, C.geq_mk, C.conv_mk, C.len_mk, C.ext_0, C.ext_1, C.ext3_0, C.ext3_1, C.ext3_2, C.guarded_yes, C.guarded_tf, C.guarded_ft, C.guarded_undef, Bool.not_true, Bool.not_false, Nat.zero_add, eq_self, decide_true, decide_false]
  refine Lost_un u0 fun w8 g8 => ?_
  try simp only [C.ite_true, C.ite_false, C.pick_true, C.pick_false, C.not_bool, C.field_ptr, C.nilCheck_ptr, C.add_mk, C.sub_mk, C.mul_mk, C.eql_mk, C.neq_mk, C.lss_mk, C.leq_mk, C.gtr_mk, C.geq_mk, C.conv_mk, C.len_mk, C.ext_0, C.ext_1, C.ext3_0, C.ext3_1, C.ext3_2, C.guarded_yes, C.guarded_tf, C.guarded_ft, C.guarded_undef, Bool.not_true, Bool.not_false, Nat.zero_add, eq_self, decide_true, decide_false]
  have g38 := g4.trans (g5.trans (g6.trans (g7.trans g8)))
  refine Lost_un (u3.keep g38) fun w9 g9 => ?_
  try simp only [C.ite_true, C.ite_false, C.pick_true, C.pick_false, C.not_bool, C.field_ptr, C.nilCheck_ptr, C.add_mk, C.sub_mk, C.mul_mk, C.eql_mk, C.neq_mk, C.lss_mk, C.leq_mk, C.gtr_mk, C.geq_mk, C.conv_mk, C.len_mk, C.ext_0, C.ext_1, C.ext3_0, C.ext3_1, C.ext3_2, C.guarded_yes, C.guarded_tf, C.guarded_ft, C.guarded_undef, Bool.not_true, Bool.not_false, Nat.zero_add, eq_self, decide_true, decide_false]
  refine Clone_un u0 ⟨_, eq_nil_nil _ _ Try.underlying28, ?_⟩
  try simp only [C.ite_true, C.ite_false, C.pick_true, C.pick_false, C.not_bool, C.field_ptr, C.nilCheck_ptr, C.add_mk, C.sub_mk, C.mul_mk, C.eql_mk, C.neq_mk, C.lss_mk, C.leq_mk, C.gtr_mk, C.geq_mk, C.conv_mk, C.len_mk, C.ext_0, C.ext_1, C.ext3_0, C.ext3_1, C.ext3_2, C.guarded_yes, C.guarded_tf, C.guarded_ft, C.guarded_undef, Bool.not_true, Bool.not_false, Nat.zero_add, eq_self, decide_true, decide_false]
  refine Clone_un (u3.keep (g38.trans g9)) ⟨_, eq_nil_nil _ _ Try.underlying28, ?_⟩
  try simp only [C.ite_true, C.ite_false, C.pick_true, C.pick_false, C.not_bool, C.field_ptr, C.nilCheck_ptr, C.add_mk, C.sub_mk, C.mul_mk, C.eql_mk, C.neq_mk, C.lss_mk, C.leq_mk, C.gtr_mk, C.geq_mk, C.conv_mk, C.len_mk, C.ext_0, C.ext_1, C.ext3_0, C.ext3_1, C.ext3_2, C.guarded_yes, C.guarded_tf, C.guarded_ft, C.guarded_undef, Bool.not_true, Bool.not_false, Nat.zero_add, eq_self, decide_true, decide_false]
  exact h w9 (f3.trans (g38.trans g9))
theorem BkIn.run {m : Int} : ∀ (l : List (Int × Int)) (B : Int) (s : St), BkIn B s.i s.o s.l m → B + 2147483648 * l.length ≤ 1000000000000000000 → BkIn (B + 2147483648 * l.length) (runS m s l).i (runS m s l).o (runS m s l).l m
  | [], B, s, h, _ => by simpa [runS] using h
  | x :: l, B, s, h, hB => by
    rw [List.length_cons] at hB ⊢
    have h1 := h.step x.1 x.2 (by omega)
    have := BkIn.run l (B + 2147483648) (stepS m s x) h1 (by omega)
    rw [show B + 2147483648 * ((l.length + 1 : Nat) : Int) = B + 2147483648 + 2147483648 * (l.length : Int) by omega]
    exact this
theorem BkIn.mono {B C i o l m : Int} (h : BkIn B i o l m) (hBC : B ≤ C) : BkIn C i o l m := ⟨h.toBkOk, by have := h.iB; omega, by have := h.lB; omega⟩
theorem BankClones_c (n : Int) {va vc vd : Value} {a c d : List (Int × Int)} (ha : RdS w va 2 (opsC a)) (hc : RdS w vc 2 (opsC c)) (hd : RdS w vd 2 (opsC d)) (h : ∀ w', Fr [] w w' → K (.bool true) w') : C.call Try.prog 8 #[.int .i64 n, va, vc, vd] w K := by
  refine F8b.sh (Alive_c fun w1 hf1 => ?_)
  try simp only [C.ite_true, C.ite_false, C.pick_true, C.pick_false, C.not_bool, C.field_ptr, C.nilCheck_ptr, C.add_mk, C.sub_mk, C.mul_mk, C.eql_mk, C.neq_mk, C.lss_mk, C.leq_mk, C.gtr_mk, C.geq_mk, C.conv_mk, C.len_mk, C.ext_0, C.ext_1, C.ext3_0, C.ext3_1, C.ext3_2, C.guarded_yes, C.guarded_tf, C.guarded_ft, C.guarded_undef, Bool.not_true, Bool.not_false, Nat.zero_add, eq_self, decide_true, decide_false]
  refine F8b.k3.to (New_c n fun g w2 hn2 => Near_c _ _ _ ?_)
  have hcl := clamp_bd n 0 65535 (by omega)
  have hg2 := hn2.at_
  generalize clamp n 0 65535 = m at *
  have lg : w.heap.size ≤ g := by have := hn2.is; have := hf1.size; omega
  have f2 := hf1.trans hn2.fr
  have k0 : BkIn 0 0 0 0 m := ⟨⟨by omega, by omega, by omega, by omega, by omega, by omega, by omega, by omega⟩, by omega, by omega⟩
  refine C.run_of (build25_1 _) (few_c ha fun va' ha' => ?_)
  have hla : (a.take 60).length ≤ 60 := by rw [List.length_take]; omega
  refine run_c (B := 0) ⟨0, 0, 0⟩ hg2 k0 (fun w' hf => ha'.keep (f2.then hf fun x hx => by simp only [List.mem_singleton] at hx; exact .inr (by omega))) (by omega) fun w3 hf3 hg3 => ?_
  have k3 := (BkIn.run (a.take 60) 0 ⟨0, 0, 0⟩ k0 (by omega)).mono (C := 2147483648 * 60) (by omega)
  generalize runS m ⟨0, 0, 0⟩ (a.take 60) = s at *
  have f3 : Fr [] w w3 := f2.then hf3 fun x hx => by simp only [List.mem_singleton] at hx; exact .inr (by omega)
  try simp only [C.ite_true, C.ite_false, C.pick_true, C.pick_false, C.not_bool, C.field_ptr, C.nilCheck_ptr, C.add_mk, C.sub_mk, C.mul_mk, C.eql_mk, C.neq_mk, C.lss_mk, C.leq_mk, C.gtr_mk, C.geq_mk, C.conv_mk, C.len_mk, C.ext_0, C.ext_1, C.ext3_0, C.ext3_1, C.ext3_2, C.guarded_yes, C.guarded_tf, C.guarded_ft, C.guarded_undef, Bool.not_true, Bool.not_false, Nat.zero_add, eq_self, decide_true, decide_false]
  refine C.new_of fun bm w4 hn4 => C.store_all (x := bookV m s.i s.o s.l) hn4.at_ rfl int5_cells rfl fun w5 hu5 => ?_
  have lg3 := lt_of_at hg3
  have hgbm : g ≠ bm := hn4.ne lg3
  have lbm : w3.heap.size ≤ bm := by have := hn4.is; omega
  have f35 : Fr [] w3 w5 := hn4.fr.then hu5.fr (by simp; omega)
  have hg5 := f35.at_ hg3 (by simp)
  have hbm5 : w5.heap[bm]? = some (bookB m s.i s.o s.l) := hu5.at_
  refine Clone_c hg5 fun k w6 hf6 lk hk6 => ?_
  have hg6 := hf6.at_ hg5 (by simp)
  have hbm6 := hf6.at_ hbm5 (by simp)
  have lbm5 := lt_of_at hbm5
  have lg5 := lt_of_at hg5
  refine C.draw_of (fun w' => w'.heap[bm]? = some (bookB m s.i s.o s.l)) fun w7 hf7 he7 => ⟨by rw [he7]; exact hbm6, ?_⟩
  have f7 := ((f3.trans f35).trans hf6).trans hf7
  have hk7 := hf7.at_ hk6 (by simp)
  have lk7 := lt_of_at hk7
  refine C.loadAS_of (vs := [.int .i64 m, .int .i64 (s.i - s.o), .int .i64 s.i, .int .i64 s.o, .int .i64 s.l]) (fun w' hw => ⟨_, _, _, hw, by simp, rfl⟩) ?_
  refine orders3 (Z := fun x13 x42 w29 => F8b.k7 K vd (.pointer (some ⟨g, 0, none⟩)) (.pointer (some ⟨bm, 0, none⟩)) (.bool true) (.pointer (some ⟨k, 0, none⟩)) x13 x42 w29) (s := s) (s0 := s) (fun _ => Iff.rfl) f7 lg (Ne.symm hgbm) hc (hf7.at_ hg6 (by simp)) (hf7.at_ hbm6 (by simp)) rfl k3 (by omega) fun bx w8 hf8 lbx hg8 hx8 => ?_
  have hlc : (c.take 60).length ≤ 60 := by rw [List.length_take]; omega
  have k8 := BkIn.run (c.take 60) _ s k3 (by omega)
  generalize runS m s (c.take 60) = s2 at *
  have hbm8 := hf8.at_ (hf7.at_ hbm6 (by simp)) (by simpa using Ne.symm hgbm)
  have hk8 := hf8.at_ hk7 (by simp; omega)
  have f8 : Fr [] w w8 := f7.then hf8 fun x hx => by simp only [List.mem_singleton] at hx; exact .inr (by omega)
  refine F8b.k7.to (C.draw_of (fun w' => w'.heap[bm]? = some (bookB m s.i s.o s.l)) fun w9 hf9 he9 => ⟨by rw [he9]; exact hbm8, ?_⟩)
  have f9 := f8.trans hf9
  have zz := f3.size
  have zk : w.heap.size ≤ k := by have := f35.size; omega
  refine C.loadAS_of (vs := [.int .i64 m, .int .i64 (s.i - s.o), .int .i64 s.i, .int .i64 s.o, .int .i64 s.l]) (fun w' hw => ⟨_, _, _, hw, by simp, rfl⟩) ?_
  have hg9 := hf9.at_ hg8 (by simp)
  have hx9 := hf9.at_ hx8 (by simp)
  have lg9 := lt_of_at hg9
  have lx9 := lt_of_at hx9
  refine orders3 (g := k) (bm := bm) (Z := fun x13 x42 w29 => last8P K (.pointer (some ⟨g, 0, none⟩)) (.bool true) (.pointer (some ⟨k, 0, none⟩)) (.pointer (some ⟨bx, 0, none⟩)) (.bool true) x13 x42 w29) (s := s) (s0 := s) (fun _ => Iff.rfl) f9 zk (by omega) hd (hf9.at_ hk8 (by simp)) (hf9.at_ hbm8 (by simp)) rfl k3 (by omega) fun by_ w10 hf10 lby hk10 hy10 => ?_
  have hld : (d.take 60).length ≤ 60 := by rw [List.length_take]; omega
  have k10 := BkIn.run (d.take 60) _ s k3 (by omega)
  generalize runS m s (d.take 60) = s3 at *
  refine last8 (g := g) (k := k) (bx := bx) (by_ := by_) (m := m) (s := s2) (s' := s3) (B := 0) (B' := 0) rfl rfl rfl rfl rfl rfl rfl (hf10.at_ hg9 (by simp; omega)) hk10 (hf10.at_ hx9 (by simp; omega)) hy10 k8.toBkOk k10.toBkOk fun w' hf => h w' ((f9.then hf10 fun x hx => by simp only [List.mem_singleton] at hx; exact .inr (by omega)).trans hf)
end
end Go.Proofs.YtckageghbhkklaaV
