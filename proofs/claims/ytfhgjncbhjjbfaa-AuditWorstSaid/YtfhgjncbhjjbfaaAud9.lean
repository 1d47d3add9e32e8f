/- The three statements' functions: what the calls come to. -/
import Derived.Test.YtfhgjncbhjjbfaaAud8
namespace Go.Proofs.YtfhgjncbhjjbfaaV
open Go Go.Proofs Go.RowKit
set_option linter.unusedVariables false
set_option linter.unusedSimpArgs false
set_option maxRecDepth 10000
theorem dearI_lo (tax : Int) (L : List Stp) (A : List Ans) (m : Nat) : dearI tax L A m = -1 ∨ 0 ≤ dearI tax L A m := by
  unfold dearI
  split
  · exact .inr (by omega)
  · exact .inl rfl
section
variable {K : VK} {w : World}
theorem tells_loop {lv av : Value} {L : List Stp} {A : List Ans} {t tax : Int} (r1 : RdS w lv 7 (stpC L)) (r2 : RdS w av 5 (ansC A)) (hL : L.length ≤ 60) (h : ∀ w', Fr [] w w' → K (.bool true) w') :
    ∀ (d i : Nat) (w' : World), min L.length A.length = i + d → Fr [] w w' → F3.l6 K lv av (.int .i64 t) (.int .i64 tax) (.int .i64 (dearI tax L A i)) (.int .i64 (i : Int)) w' := by
  intro d
  induction d with
  | zero =>
    intro i w' hi hf
    have fin : F3.k10 K lv av (.int .i64 t) (.int .i64 tax) (.int .i64 (dearI tax L A i)) w' := by
      refine F3.k10.to (Letters_c (r1.keep hf) (r2.keep hf) hL fun v1 w1 h1 o1 => letters_c ((r1.keep hf).keep h1) ((r2.keep hf).keep h1) hL fun v2 w2 h2 o2 => Bools_c (o1.rd.keep h2) o2.rd fun w3 h3 => ?_)
      rw [decide_eq_true rfl]
      have f3 := ((hf.trans h1).trans h2).trans h3
      simp only [C.ite_true, C.ite_false, C.pick_true, C.pick_false, C.not_bool, C.field_ptr, C.nilCheck_ptr, C.add_mk, C.sub_mk, C.mul_mk, C.eql_mk, C.neq_mk, C.lss_mk, C.leq_mk, C.gtr_mk, C.geq_mk, C.conv_mk, C.len_mk, C.ext_0, C.ext_1, C.ext3_0, C.ext3_1, C.ext3_2, C.guarded_yes, C.guarded_tf, C.guarded_ft, C.guarded_undef, Bool.not_true, Bool.not_false, Nat.zero_add, eq_self, decide_true, decide_false]
      refine Dear_c (r1.keep f3) (r2.keep f3) (by omega) fun w4 h4 => ?_
      rw [show min L.length A.length = i by omega]
      simp only [C.ite_true, C.ite_false, C.pick_true, C.pick_false, C.not_bool, C.field_ptr, C.nilCheck_ptr, C.add_mk, C.sub_mk, C.mul_mk, C.eql_mk, C.neq_mk, C.lss_mk, C.leq_mk, C.gtr_mk, C.geq_mk, C.conv_mk, C.len_mk, C.ext_0, C.ext_1, C.ext3_0, C.ext3_1, C.ext3_2, C.guarded_yes, C.guarded_tf, C.guarded_ft, C.guarded_undef, Bool.not_true, Bool.not_false, Nat.zero_add, eq_self, decide_true, decide_false]
      exact h w4 (f3.trans h4)
    refine F3.l6.to (C.len_rd (r1.keep hf) ?_)
    rw [stpC_len]
    by_cases h1 : (i : Int) < (L.length : Int)
    · simp only [C.ite_true, C.ite_false, C.pick_true, C.pick_false, C.not_bool, C.field_ptr, C.nilCheck_ptr, C.add_mk, C.sub_mk, C.mul_mk, C.eql_mk, C.neq_mk, C.lss_mk, C.leq_mk, C.gtr_mk, C.geq_mk, C.conv_mk, C.len_mk, C.ext_0, C.ext_1, C.ext3_0, C.ext3_1, C.ext3_2, C.guarded_yes, C.guarded_tf, C.guarded_ft, C.guarded_undef, Bool.not_true, Bool.not_false, Nat.zero_add, eq_self, decide_true, decide_false, h1]
      refine C.len_rd (r2.keep hf) ?_
      rw [ansC_len]
      simp only [C.ite_true, C.ite_false, C.pick_true, C.pick_false, C.not_bool, C.field_ptr, C.nilCheck_ptr, C.add_mk, C.sub_mk, C.mul_mk, C.eql_mk, C.neq_mk, C.lss_mk, C.leq_mk, C.gtr_mk, C.geq_mk, C.conv_mk, C.len_mk, C.ext_0, C.ext_1, C.ext3_0, C.ext3_1, C.ext3_2, C.guarded_yes, C.guarded_tf, C.guarded_ft, C.guarded_undef, Bool.not_true, Bool.not_false, Nat.zero_add, eq_self, decide_true, decide_false, show ¬ ((i : Int) < (A.length : Int)) by omega]
      exact fin
    · simp only [C.ite_true, C.ite_false, C.pick_true, C.pick_false, C.not_bool, C.field_ptr, C.nilCheck_ptr, C.add_mk, C.sub_mk, C.mul_mk, C.eql_mk, C.neq_mk, C.lss_mk, C.leq_mk, C.gtr_mk, C.geq_mk, C.conv_mk, C.len_mk, C.ext_0, C.ext_1, C.ext3_0, C.ext3_1, C.ext3_2, C.guarded_yes, C.guarded_tf, C.guarded_ft, C.guarded_undef, Bool.not_true, Bool.not_false, Nat.zero_add, eq_self, decide_true, decide_false, h1]
      exact fin
  | succ d ih =>
    intro i w' hi hf
    have hiL : i < L.length := by omega
    have hiA : i < A.length := by omega
    refine F3.l6.to (C.len_rd (r1.keep hf) ?_)
    rw [stpC_len]
    simp only [C.ite_true, C.ite_false, C.pick_true, C.pick_false, C.not_bool, C.field_ptr, C.nilCheck_ptr, C.add_mk, C.sub_mk, C.mul_mk, C.eql_mk, C.neq_mk, C.lss_mk, C.leq_mk, C.gtr_mk, C.geq_mk, C.conv_mk, C.len_mk, C.ext_0, C.ext_1, C.ext3_0, C.ext3_1, C.ext3_2, C.guarded_yes, C.guarded_tf, C.guarded_ft, C.guarded_undef, Bool.not_true, Bool.not_false, Nat.zero_add, eq_self, decide_true, decide_false, show ((i : Int) < (L.length : Int)) by omega]
    refine C.len_rd (r2.keep hf) ?_
    rw [ansC_len]
    simp only [C.ite_true, C.ite_false, C.pick_true, C.pick_false, C.not_bool, C.field_ptr, C.nilCheck_ptr, C.add_mk, C.sub_mk, C.mul_mk, C.eql_mk, C.neq_mk, C.lss_mk, C.leq_mk, C.gtr_mk, C.geq_mk, C.conv_mk, C.len_mk, C.ext_0, C.ext_1, C.ext3_0, C.ext3_1, C.ext3_2, C.guarded_yes, C.guarded_tf, C.guarded_ft, C.guarded_undef, Bool.not_true, Bool.not_false, Nat.zero_add, eq_self, decide_true, decide_false, show ((i : Int) < (A.length : Int)) by omega]
    have hsucc := dearI_succ tax L A i
    have hdb := dearB_get (tax := tax) hiL hiA
    have hlo := dearI_lo tax L A i
    have g1 := stpC_get hiL
    have g2 := ansC_get hiA
    have ih' := fun w' => ih (i + 1) w' (by omega)
    generalize hX : L[i] = X at *
    generalize hY : A[i] = Y at *
    have nx : ∀ w', Fr [] w w' → F3.k7 K lv av (.int .i64 t) (.int .i64 tax) (.int .i64 (dearI tax L A (i + 1))) (.int .i64 (i : Int)) w' := by
      intro w' hf
      refine F3.k7.to ?_
      simp only [C.ite_true, C.ite_false, C.pick_true, C.pick_false, C.not_bool, C.field_ptr, C.nilCheck_ptr, C.add_mk, C.sub_mk, C.mul_mk, C.eql_mk, C.neq_mk, C.lss_mk, C.leq_mk, C.gtr_mk, C.geq_mk, C.conv_mk, C.len_mk, C.ext_0, C.ext_1, C.ext3_0, C.ext3_1, C.ext3_2, C.guarded_yes, C.guarded_tf, C.guarded_ft, C.guarded_undef, Bool.not_true, Bool.not_false, Nat.zero_add, eq_self, decide_true, decide_false]
      rw [wrap64_id (n := (i : Int) + 1) (by omega), show (i : Int) + 1 = ((i + 1 : Nat) : Int) by omega]
      exact ih' w' hf
    refine F3.k8.to (C.draw_of (fun w' => Fr [] w w') fun w1 hf1 he1 => ⟨hf.trans hf1, ?_⟩)
    have f1 := hf.trans hf1
    by_cases h0 : dearI tax L A i < 0
    · have e1 : dearI tax L A i = -1 := by omega
      rw [e1, if_neg (by omega)] at hsucc
      simp only [C.ite_true, C.ite_false, C.pick_true, C.pick_false, C.not_bool, C.field_ptr, C.nilCheck_ptr, C.add_mk, C.sub_mk, C.mul_mk, C.eql_mk, C.neq_mk, C.lss_mk, C.leq_mk, C.gtr_mk, C.geq_mk, C.conv_mk, C.len_mk, C.ext_0, C.ext_1, C.ext3_0, C.ext3_1, C.ext3_2, C.guarded_yes, C.guarded_tf, C.guarded_ft, C.guarded_undef, Bool.not_true, Bool.not_false, Nat.zero_add, eq_self, decide_true, decide_false, h0]
      refine C.idx_rdS (S := fun w' => Fr [] w w') (fun w' hw => r1.keep hw) f1 (by omega) (by rw [Int.toNat_natCast]; exact g1) fun ga oa _ hs1 => ?_
      simp only [C.ite_true, C.ite_false, C.pick_true, C.pick_false, C.not_bool, C.field_ptr, C.nilCheck_ptr, C.add_mk, C.sub_mk, C.mul_mk, C.eql_mk, C.neq_mk, C.lss_mk, C.leq_mk, C.gtr_mk, C.geq_mk, C.conv_mk, C.len_mk, C.ext_0, C.ext_1, C.ext3_0, C.ext3_1, C.ext3_2, C.guarded_yes, C.guarded_tf, C.guarded_ft, C.guarded_undef, Bool.not_true, Bool.not_false, Nat.zero_add, eq_self, decide_true, decide_false]
      refine C.load1S_of (v := .int .i64 X.k) (fun w' hw => by obtain ⟨cs, e, fz, x, y⟩ := hs1 w' hw; exact ⟨cs, e, fz, x, by simpa [stpL] using y 0 (by omega)⟩) ?_
      by_cases hk : X.k = 3
      · simp only [C.ite_true, C.ite_false, C.pick_true, C.pick_false, C.not_bool, C.field_ptr, C.nilCheck_ptr, C.add_mk, C.sub_mk, C.mul_mk, C.eql_mk, C.neq_mk, C.lss_mk, C.leq_mk, C.gtr_mk, C.geq_mk, C.conv_mk, C.len_mk, C.ext_0, C.ext_1, C.ext3_0, C.ext3_1, C.ext3_2, C.guarded_yes, C.guarded_tf, C.guarded_ft, C.guarded_undef, Bool.not_true, Bool.not_false, Nat.zero_add, eq_self, decide_true, decide_false, hk]
        refine C.idx_rdS (S := fun w' => Fr [] w w') (fun w' hw => r2.keep hw) f1 (by omega) (by rw [Int.toNat_natCast]; exact g2) fun gb ob _ hs2 => ?_
        simp only [C.ite_true, C.ite_false, C.pick_true, C.pick_false, C.not_bool, C.field_ptr, C.nilCheck_ptr, C.add_mk, C.sub_mk, C.mul_mk, C.eql_mk, C.neq_mk, C.lss_mk, C.leq_mk, C.gtr_mk, C.geq_mk, C.conv_mk, C.len_mk, C.ext_0, C.ext_1, C.ext3_0, C.ext3_1, C.ext3_2, C.guarded_yes, C.guarded_tf, C.guarded_ft, C.guarded_undef, Bool.not_true, Bool.not_false, Nat.zero_add, eq_self, decide_true, decide_false]
        refine C.idx_rdS (S := fun w' => Fr [] w w') (fun w' hw => r2.keep hw) f1 (by omega) (by rw [Int.toNat_natCast]; exact g2) fun gc oc _ hs3 => ?_
        simp only [C.ite_true, C.ite_false, C.pick_true, C.pick_false, C.not_bool, C.field_ptr, C.nilCheck_ptr, C.add_mk, C.sub_mk, C.mul_mk, C.eql_mk, C.neq_mk, C.lss_mk, C.leq_mk, C.gtr_mk, C.geq_mk, C.conv_mk, C.len_mk, C.ext_0, C.ext_1, C.ext3_0, C.ext3_1, C.ext3_2, C.guarded_yes, C.guarded_tf, C.guarded_ft, C.guarded_undef, Bool.not_true, Bool.not_false, Nat.zero_add, eq_self, decide_true, decide_false]
        refine C.load1S_of (v := .int .i64 Y.d) (fun w' hw => by obtain ⟨cs, e, fz, x, y⟩ := hs2 w' hw; exact ⟨cs, e, fz, x, by simpa [ansL] using y 3 (by omega)⟩) ?_
        refine C.load1S_of (v := .int .i64 Y.r) (fun w' hw => by obtain ⟨cs, e, fz, x, y⟩ := hs3 w' hw; exact ⟨cs, e, fz, x, by simpa [ansL] using y 4 (by omega)⟩) ?_
        have b1 := clamp_bd Y.d 0 64 (by omega)
        have b2 := clamp_bd Y.r 0 64 (by omega)
        refine ⟨Near_c _ _ _ ⟨f1, ⟨Near_c _ _ _ ⟨f1, ?_⟩, trivial⟩⟩, trivial⟩
        try simp only [C.ite_true, C.ite_false, C.pick_true, C.pick_false, C.not_bool, C.field_ptr, C.nilCheck_ptr, C.add_mk, C.sub_mk, C.mul_mk, C.eql_mk, C.neq_mk, C.lss_mk, C.leq_mk, C.gtr_mk, C.geq_mk, C.conv_mk, C.len_mk, C.ext_0, C.ext_1, C.ext3_0, C.ext3_1, C.ext3_2, C.guarded_yes, C.guarded_tf, C.guarded_ft, C.guarded_undef, Bool.not_true, Bool.not_false, Nat.zero_add, eq_self, decide_true, decide_false]
        rw [wrap64_id (n := clamp Y.d 0 64 + clamp Y.r 0 64) (by omega)]
        by_cases hgt : clamp Y.d 0 64 + clamp Y.r 0 64 > tax
        · simp only [C.ite_true, C.ite_false, C.pick_true, C.pick_false, C.not_bool, C.field_ptr, C.nilCheck_ptr, C.add_mk, C.sub_mk, C.mul_mk, C.eql_mk, C.neq_mk, C.lss_mk, C.leq_mk, C.gtr_mk, C.geq_mk, C.conv_mk, C.len_mk, C.ext_0, C.ext_1, C.ext3_0, C.ext3_1, C.ext3_2, C.guarded_yes, C.guarded_tf, C.guarded_ft, C.guarded_undef, Bool.not_true, Bool.not_false, Nat.zero_add, eq_self, decide_true, decide_false, hgt]
          rw [hdb, decide_eq_true hk, decide_eq_true hgt, if_pos (by rfl)] at hsucc
          have := nx w1 f1
          rw [hsucc] at this
          exact this
        · simp only [C.ite_true, C.ite_false, C.pick_true, C.pick_false, C.not_bool, C.field_ptr, C.nilCheck_ptr, C.add_mk, C.sub_mk, C.mul_mk, C.eql_mk, C.neq_mk, C.lss_mk, C.leq_mk, C.gtr_mk, C.geq_mk, C.conv_mk, C.len_mk, C.ext_0, C.ext_1, C.ext3_0, C.ext3_1, C.ext3_2, C.guarded_yes, C.guarded_tf, C.guarded_ft, C.guarded_undef, Bool.not_true, Bool.not_false, Nat.zero_add, eq_self, decide_true, decide_false, hgt]
          rw [hdb, decide_eq_true hk, decide_eq_false hgt, if_neg (by simp), ← e1] at hsucc
          rw [← hsucc]
          exact nx w1 f1
      · simp only [C.ite_true, C.ite_false, C.pick_true, C.pick_false, C.not_bool, C.field_ptr, C.nilCheck_ptr, C.add_mk, C.sub_mk, C.mul_mk, C.eql_mk, C.neq_mk, C.lss_mk, C.leq_mk, C.gtr_mk, C.geq_mk, C.conv_mk, C.len_mk, C.ext_0, C.ext_1, C.ext3_0, C.ext3_1, C.ext3_2, C.guarded_yes, C.guarded_tf, C.guarded_ft, C.guarded_undef, Bool.not_true, Bool.not_false, Nat.zero_add, eq_self, decide_true, decide_false, hk]
        rw [hdb, decide_eq_false hk, if_neg (by simp), ← e1] at hsucc
        rw [← hsucc]
        exact ⟨⟨f1, ⟨⟨f1, nx w1 f1⟩, trivial⟩⟩, trivial⟩
    · rw [if_pos (by omega)] at hsucc
      simp only [C.ite_true, C.ite_false, C.pick_true, C.pick_false, C.not_bool, C.field_ptr, C.nilCheck_ptr, C.add_mk, C.sub_mk, C.mul_mk, C.eql_mk, C.neq_mk, C.lss_mk, C.leq_mk, C.gtr_mk, C.geq_mk, C.conv_mk, C.len_mk, C.ext_0, C.ext_1, C.ext3_0, C.ext3_1, C.ext3_2, C.guarded_yes, C.guarded_tf, C.guarded_ft, C.guarded_undef, Bool.not_true, Bool.not_false, Nat.zero_add, eq_self, decide_true, decide_false, h0]
      rw [← hsucc]
      exact ⟨⟨f1, ⟨⟨f1, nx w1 f1⟩, trivial⟩⟩, trivial⟩
theorem AuditTells_c {lv av : Value} {L : List Stp} {A : List Ans} (t tax : Int) (r1 : RdS w lv 7 (stpC L)) (r2 : RdS w av 5 (ansC A)) (h : ∀ w', Fr [] w w' → K (.bool true) w') : C.call Try.prog 3 #[lv, av, .int .i64 t, .int .i64 tax] w K := by
  refine F3.sh (Alive_c fun w1 f1 => ?_)
  simp only [C.ite_true, C.ite_false, C.pick_true, C.pick_false, C.not_bool, C.field_ptr, C.nilCheck_ptr, C.add_mk, C.sub_mk, C.mul_mk, C.eql_mk, C.neq_mk, C.lss_mk, C.leq_mk, C.gtr_mk, C.geq_mk, C.conv_mk, C.len_mk, C.ext_0, C.ext_1, C.ext3_0, C.ext3_1, C.ext3_2, C.guarded_yes, C.guarded_tf, C.guarded_ft, C.guarded_undef, Bool.not_true, Bool.not_false, Nat.zero_add, eq_self, decide_true, decide_false]
  refine F3.k3.to (few_c (r1.keep f1) fun v' r1' => ?_)
  exact tells_loop (tax := tax) r1' (r2.keep f1) (by simp; omega) (fun w' hf => h w' (f1.trans hf)) (min (L.take 60).length A.length) 0 w1 (by omega) (Fr.refl _ _)
/-! ### AuditWorst -/
theorem win_loop {v : Value} {l : List Bool} {n mo : Int} (hr : RdS w v 1 (boolC l)) (hn : 1 ≤ n) {i : Nat} (hi : i < l.length) (h : F4.k15 K v (.int .i64 n) (.int .i64 mo) (.int .i64 (i : Int)) (.int .i64 (winB l n.toNat i)) w) :
    ∀ (d j : Nat), min (i + n.toNat) l.length = j + d → i ≤ j → F4.l11 K v (.int .i64 n) (.int .i64 mo) (.int .i64 (i : Int)) (.int .i64 (cntB l j - cntB l i)) (.int .i64 (j : Int)) w := by
  have hl2 := hr.le
  rw [boolC_len] at hl2
  intro d
  induction d with
  | zero =>
    intro j hj hij
    have e : winB l n.toNat i = cntB l j - cntB l i := by unfold winB; rw [show min (i + n.toNat) l.length = j by omega]
    rw [e] at h
    refine F4.l11.to (C.len_rd hr ?_)
    rw [boolC_len]
    by_cases h1 : (j : Int) < (l.length : Int)
    · simp only [C.ite_true, C.ite_false, C.pick_true, C.pick_false, C.not_bool, C.field_ptr, C.nilCheck_ptr, C.add_mk, C.sub_mk, C.mul_mk, C.eql_mk, C.neq_mk, C.lss_mk, C.leq_mk, C.gtr_mk, C.geq_mk, C.conv_mk, C.len_mk, C.ext_0, C.ext_1, C.ext3_0, C.ext3_1, C.ext3_2, C.guarded_yes, C.guarded_tf, C.guarded_ft, C.guarded_undef, Bool.not_true, Bool.not_false, Nat.zero_add, eq_self, decide_true, decide_false, h1]
      rw [wrap64_id (n := (j : Int) - (i : Int)) (by omega)]
      simp only [C.ite_true, C.ite_false, C.pick_true, C.pick_false, C.not_bool, C.field_ptr, C.nilCheck_ptr, C.add_mk, C.sub_mk, C.mul_mk, C.eql_mk, C.neq_mk, C.lss_mk, C.leq_mk, C.gtr_mk, C.geq_mk, C.conv_mk, C.len_mk, C.ext_0, C.ext_1, C.ext3_0, C.ext3_1, C.ext3_2, C.guarded_yes, C.guarded_tf, C.guarded_ft, C.guarded_undef, Bool.not_true, Bool.not_false, Nat.zero_add, eq_self, decide_true, decide_false, show ¬ ((j : Int) - (i : Int) < n) by omega]
      exact h
    · simp only [C.ite_true, C.ite_false, C.pick_true, C.pick_false, C.not_bool, C.field_ptr, C.nilCheck_ptr, C.add_mk, C.sub_mk, C.mul_mk, C.eql_mk, C.neq_mk, C.lss_mk, C.leq_mk, C.gtr_mk, C.geq_mk, C.conv_mk, C.len_mk, C.ext_0, C.ext_1, C.ext3_0, C.ext3_1, C.ext3_2, C.guarded_yes, C.guarded_tf, C.guarded_ft, C.guarded_undef, Bool.not_true, Bool.not_false, Nat.zero_add, eq_self, decide_true, decide_false, h1]
      exact h
  | succ d ih =>
    intro j hj hij
    have hjl : j < l.length := by omega
    refine F4.l11.to (C.len_rd hr ?_)
    rw [boolC_len]
    simp only [C.ite_true, C.ite_false, C.pick_true, C.pick_false, C.not_bool, C.field_ptr, C.nilCheck_ptr, C.add_mk, C.sub_mk, C.mul_mk, C.eql_mk, C.neq_mk, C.lss_mk, C.leq_mk, C.gtr_mk, C.geq_mk, C.conv_mk, C.len_mk, C.ext_0, C.ext_1, C.ext3_0, C.ext3_1, C.ext3_2, C.guarded_yes, C.guarded_tf, C.guarded_ft, C.guarded_undef, Bool.not_true, Bool.not_false, Nat.zero_add, eq_self, decide_true, decide_false, show ((j : Int) < (l.length : Int)) by omega]
    rw [wrap64_id (n := (j : Int) - (i : Int)) (by omega)]
    simp only [C.ite_true, C.ite_false, C.pick_true, C.pick_false, C.not_bool, C.field_ptr, C.nilCheck_ptr, C.add_mk, C.sub_mk, C.mul_mk, C.eql_mk, C.neq_mk, C.lss_mk, C.leq_mk, C.gtr_mk, C.geq_mk, C.conv_mk, C.len_mk, C.ext_0, C.ext_1, C.ext3_0, C.ext3_1, C.ext3_2, C.guarded_yes, C.guarded_tf, C.guarded_ft, C.guarded_undef, Bool.not_true, Bool.not_false, Nat.zero_add, eq_self, decide_true, decide_false, show ((j : Int) - (i : Int) < n) by omega]
    have b1 := cntB_bd l j
    have b2 := cntB_bd l i
    have ih' := ih (j + 1) (by omega) (by omega)
    simp only [cntB] at ih'
    rw [List.getElem?_eq_getElem hjl] at ih'
    refine F4.k13.to (C.idx_rd hr (by omega) (by rw [Int.toNat_natCast]; exact boolC_get hjl) fun g o cs e fz hg _ hc => ?_)
    refine C.load1_of (v := .bool l[j]) hg (by simpa using hc 0 (by simp)) ?_
    cases hb : l[j] with
    | true =>
      rw [hb, if_pos rfl] at ih'
      simp only [C.ite_true, C.ite_false, C.pick_true, C.pick_false, C.not_bool, C.field_ptr, C.nilCheck_ptr, C.add_mk, C.sub_mk, C.mul_mk, C.eql_mk, C.neq_mk, C.lss_mk, C.leq_mk, C.gtr_mk, C.geq_mk, C.conv_mk, C.len_mk, C.ext_0, C.ext_1, C.ext3_0, C.ext3_1, C.ext3_2, C.guarded_yes, C.guarded_tf, C.guarded_ft, C.guarded_undef, Bool.not_true, Bool.not_false, Nat.zero_add, eq_self, decide_true, decide_false]
      rw [wrap64_id (n := cntB l j - cntB l i + 1) (by omega), show cntB l j - cntB l i + 1 = cntB l j + 1 - cntB l i by omega]
      refine F4.k12.to ?_
      simp only [C.ite_true, C.ite_false, C.pick_true, C.pick_false, C.not_bool, C.field_ptr, C.nilCheck_ptr, C.add_mk, C.sub_mk, C.mul_mk, C.eql_mk, C.neq_mk, C.lss_mk, C.leq_mk, C.gtr_mk, C.geq_mk, C.conv_mk, C.len_mk, C.ext_0, C.ext_1, C.ext3_0, C.ext3_1, C.ext3_2, C.guarded_yes, C.guarded_tf, C.guarded_ft, C.guarded_undef, Bool.not_true, Bool.not_false, Nat.zero_add, eq_self, decide_true, decide_false]
      rw [wrap64_id (n := (j : Int) + 1) (by omega), show (j : Int) + 1 = ((j + 1 : Nat) : Int) by omega]
      exact ih'
    | false =>
      rw [hb, if_neg (by simp), Int.add_zero] at ih'
      simp only [C.ite_true, C.ite_false, C.pick_true, C.pick_false, C.not_bool, C.field_ptr, C.nilCheck_ptr, C.add_mk, C.sub_mk, C.mul_mk, C.eql_mk, C.neq_mk, C.lss_mk, C.leq_mk, C.gtr_mk, C.geq_mk, C.conv_mk, C.len_mk, C.ext_0, C.ext_1, C.ext3_0, C.ext3_1, C.ext3_2, C.guarded_yes, C.guarded_tf, C.guarded_ft, C.guarded_undef, Bool.not_true, Bool.not_false, Nat.zero_add, eq_self, decide_true, decide_false]
      refine F4.k12.to ?_
      simp only [C.ite_true, C.ite_false, C.pick_true, C.pick_false, C.not_bool, C.field_ptr, C.nilCheck_ptr, C.add_mk, C.sub_mk, C.mul_mk, C.eql_mk, C.neq_mk, C.lss_mk, C.leq_mk, C.gtr_mk, C.geq_mk, C.conv_mk, C.len_mk, C.ext_0, C.ext_1, C.ext3_0, C.ext3_1, C.ext3_2, C.guarded_yes, C.guarded_tf, C.guarded_ft, C.guarded_undef, Bool.not_true, Bool.not_false, Nat.zero_add, eq_self, decide_true, decide_false]
      rw [wrap64_id (n := (j : Int) + 1) (by omega), show (j : Int) + 1 = ((j + 1 : Nat) : Int) by omega]
      exact ih'
theorem most_loop {v : Value} {l : List Bool} {n : Int} (hr : RdS w v 1 (boolC l)) (hn : 1 ≤ n) (h : F4.k16 K v (.int .i64 n) (.int .i64 (mxI (winB l n.toNat) l.length)) w) :
    ∀ (d i : Nat), l.length = i + d → F4.l7 K v (.int .i64 n) (.int .i64 (mxI (winB l n.toNat) i)) (.int .i64 (i : Int)) w := by
  have hl2 := hr.le
  rw [boolC_len] at hl2
  intro d
  induction d with
  | zero =>
    intro i hi
    obtain rfl : i = l.length := by omega
    refine F4.l7.to (C.len_rd hr ?_)
    rw [boolC_len]
    simp only [C.ite_true, C.ite_false, C.pick_true, C.pick_false, C.not_bool, C.field_ptr, C.nilCheck_ptr, C.add_mk, C.sub_mk, C.mul_mk, C.eql_mk, C.neq_mk, C.lss_mk, C.leq_mk, C.gtr_mk, C.geq_mk, C.conv_mk, C.len_mk, C.ext_0, C.ext_1, C.ext3_0, C.ext3_1, C.ext3_2, C.guarded_yes, C.guarded_tf, C.guarded_ft, C.guarded_undef, Bool.not_true, Bool.not_false, Nat.zero_add, eq_self, decide_true, decide_false, show ¬ ((l.length : Int) < (l.length : Int)) by omega]
    exact h
  | succ d ih =>
    intro i hi
    refine F4.l7.to (C.len_rd hr ?_)
    rw [boolC_len]
    simp only [C.ite_true, C.ite_false, C.pick_true, C.pick_false, C.not_bool, C.field_ptr, C.nilCheck_ptr, C.add_mk, C.sub_mk, C.mul_mk, C.eql_mk, C.neq_mk, C.lss_mk, C.leq_mk, C.gtr_mk, C.geq_mk, C.conv_mk, C.len_mk, C.ext_0, C.ext_1, C.ext3_0, C.ext3_1, C.ext3_2, C.guarded_yes, C.guarded_tf, C.guarded_ft, C.guarded_undef, Bool.not_true, Bool.not_false, Nat.zero_add, eq_self, decide_true, decide_false, show ((i : Int) < (l.length : Int)) by omega, show (n > 0) by omega]
    have := win_loop (K := K) (mo := mxI (winB l n.toNat) i) hr hn (i := i) (by omega) (F4.k15.to (C.run_of (max2_run _ _ _ _ _) (F4.k8.to (by
      simp only [C.ite_true, C.ite_false, C.pick_true, C.pick_false, C.not_bool, C.field_ptr, C.nilCheck_ptr, C.add_mk, C.sub_mk, C.mul_mk, C.eql_mk, C.neq_mk, C.lss_mk, C.leq_mk, C.gtr_mk, C.geq_mk, C.conv_mk, C.len_mk, C.ext_0, C.ext_1, C.ext3_0, C.ext3_1, C.ext3_2, C.guarded_yes, C.guarded_tf, C.guarded_ft, C.guarded_undef, Bool.not_true, Bool.not_false, Nat.zero_add, eq_self, decide_true, decide_false]
      rw [wrap64_id (n := (i : Int) + 1) (by omega), show (i : Int) + 1 = ((i + 1 : Nat) : Int) by omega]
      exact ih (i + 1) (by omega))))) (min (i + n.toNat) l.length - i) i (by omega) (by omega)
    rw [Int.sub_self] at this
    exact F4.k9.to this
theorem AuditWorst_c {v : Value} {l : List Bool} (n : Int) (hr : RdS w v 1 (boolC l)) (h : ∀ w', Fr [] w w' → K (.bool true) w') : C.call Try.prog 4 #[v, .int .i64 n] w K := by
  have fin : ∀ (w1 : World) (v' : Value) (l' : List Bool), Fr [] w w1 → RdS w1 v' 1 (boolC l') → F4.k5 K v' (.int .i64 n) w1 := by
    intro w1 v' l' hf hr'
    have fin2 : F4.k16 K v' (.int .i64 n) (.int .i64 (worstI l' n)) w1 := by
      refine F4.k16.to (Worst_c hr' ?_)
      simp only [C.ite_true, C.ite_false, C.pick_true, C.pick_false, C.not_bool, C.field_ptr, C.nilCheck_ptr, C.add_mk, C.sub_mk, C.mul_mk, C.eql_mk, C.neq_mk, C.lss_mk, C.leq_mk, C.gtr_mk, C.geq_mk, C.conv_mk, C.len_mk, C.ext_0, C.ext_1, C.ext3_0, C.ext3_1, C.ext3_2, C.guarded_yes, C.guarded_tf, C.guarded_ft, C.guarded_undef, Bool.not_true, Bool.not_false, Nat.zero_add, eq_self, decide_true, decide_false]
      exact h w1 hf
    unfold worstI at fin2
    by_cases hn : n < 1
    · rw [if_pos hn] at fin2
      refine F4.k5.to (F4.l7.to (C.len_rd hr' ?_))
      rw [boolC_len]
      by_cases h0 : (0 : Int) < (l'.length : Int)
      · simp only [C.ite_true, C.ite_false, C.pick_true, C.pick_false, C.not_bool, C.field_ptr, C.nilCheck_ptr, C.add_mk, C.sub_mk, C.mul_mk, C.eql_mk, C.neq_mk, C.lss_mk, C.leq_mk, C.gtr_mk, C.geq_mk, C.conv_mk, C.len_mk, C.ext_0, C.ext_1, C.ext3_0, C.ext3_1, C.ext3_2, C.guarded_yes, C.guarded_tf, C.guarded_ft, C.guarded_undef, Bool.not_true, Bool.not_false, Nat.zero_add, eq_self, decide_true, decide_false, h0, show ¬ (n > 0) by omega]
        exact fin2
      · simp only [C.ite_true, C.ite_false, C.pick_true, C.pick_false, C.not_bool, C.field_ptr, C.nilCheck_ptr, C.add_mk, C.sub_mk, C.mul_mk, C.eql_mk, C.neq_mk, C.lss_mk, C.leq_mk, C.gtr_mk, C.geq_mk, C.conv_mk, C.len_mk, C.ext_0, C.ext_1, C.ext3_0, C.ext3_1, C.ext3_2, C.guarded_yes, C.guarded_tf, C.guarded_ft, C.guarded_undef, Bool.not_true, Bool.not_false, Nat.zero_add, eq_self, decide_true, decide_false, h0]
        exact fin2
    · rw [if_neg hn, win_same _ _ (by omega)] at fin2
      exact F4.k5.to (most_loop hr' (by omega) fin2 l'.length 0 (by omega))
  refine F4.sh (Alive_c fun w1 f1 => ?_)
  simp only [C.ite_true, C.ite_false, C.pick_true, C.pick_false, C.not_bool, C.field_ptr, C.nilCheck_ptr, C.add_mk, C.sub_mk, C.mul_mk, C.eql_mk, C.neq_mk, C.lss_mk, C.leq_mk, C.gtr_mk, C.geq_mk, C.conv_mk, C.len_mk, C.ext_0, C.ext_1, C.ext3_0, C.ext3_1, C.ext3_2, C.guarded_yes, C.guarded_tf, C.guarded_ft, C.guarded_undef, Bool.not_true, Bool.not_false, Nat.zero_add, eq_self, decide_true, decide_false]
  refine F4.k3.to (C.len_rd (hr.keep f1) ?_)
  rw [boolC_len]
  by_cases h1 : (l.length : Int) > 200
  · simp only [C.ite_true, C.ite_false, C.pick_true, C.pick_false, C.not_bool, C.field_ptr, C.nilCheck_ptr, C.add_mk, C.sub_mk, C.mul_mk, C.eql_mk, C.neq_mk, C.lss_mk, C.leq_mk, C.gtr_mk, C.geq_mk, C.conv_mk, C.len_mk, C.ext_0, C.ext_1, C.ext3_0, C.ext3_1, C.ext3_2, C.guarded_yes, C.guarded_tf, C.guarded_ft, C.guarded_undef, Bool.not_true, Bool.not_false, Nat.zero_add, eq_self, decide_true, decide_false, h1]
    obtain ⟨A, c, rfl, hc⟩ := hr.len_c (P := Try.prog) (K := K)
    rw [boolC_len] at hc
    refine C.run_of (sliceTo_run (e := 4) (sz := 1) A _ c .i64 200 Try.underlying33 (by kernel_rfl) (by omega) (by omega)) (fin _ _ (l.take 200) f1 ?_)
    have := (hr.keep f1).take 200 (by rw [boolC_len]; omega)
    have e : boolC (l.take 200) = (boolC l).take 200 := by simp [boolC, List.map_take]
    rw [e]
    exact this
  · simp only [C.ite_true, C.ite_false, C.pick_true, C.pick_false, C.not_bool, C.field_ptr, C.nilCheck_ptr, C.add_mk, C.sub_mk, C.mul_mk, C.eql_mk, C.neq_mk, C.lss_mk, C.leq_mk, C.gtr_mk, C.geq_mk, C.conv_mk, C.len_mk, C.ext_0, C.ext_1, C.ext3_0, C.ext3_1, C.ext3_2, C.guarded_yes, C.guarded_tf, C.guarded_ft, C.guarded_undef, Bool.not_true, Bool.not_false, Nat.zero_add, eq_self, decide_true, decide_false, h1]
    exact fin w1 v l f1 (hr.keep f1)
/-! ### AuditBank -/
theorem bank_loop {W0 : World} {lv av : Value} {L : List Stp} {A : List Ans} {room m : Int} {b8 : Nat} (r1 : RdS W0 lv 7 (stpC L)) (r2 : RdS W0 av 5 (ansC A)) (hL : L.length ≤ 60) (hm : m = clamp room 0 65535) (hb0 : W0.heap.size ≤ b8) (h : ∀ w', Fr [] W0 w' → K (.bool true) w') :
    ∀ (d i : Nat) (w : World), min L.length A.length = i + d → Fr [] W0 w → w.heap[b8]? = some (sumsB (bsRun m L A i)) → F5.l6 K (.int .i64 room) lv av (.int .i64 m) (.pointer (some ⟨b8, 0, none⟩)) (.int .i64 (i : Int)) w := by
  have hmb := clamp_bd room 0 65535 (by omega)
  rw [← hm] at hmb
  intro d
  induction d with
  | zero =>
    intro i w hi hf hb
    have fin : F5.k18 K (.int .i64 room) lv av (.pointer (some ⟨b8, 0, none⟩)) w := by
      refine F5.k18.to (C.draw_of (fun w' => w'.heap[b8]? = some (sumsB (bsRun m L A i))) fun w1 hf1 he1 => ⟨by rw [he1]; exact hb, ?_⟩)
      have f1 := hf.trans hf1
      refine C.loadAS_of (vs := [.int .i64 ((bsRun m L A i).i - (bsRun m L A i).o), .int .i64 (bsRun m L A i).i, .int .i64 (bsRun m L A i).o, .int .i64 (bsRun m L A i).l]) (fun w' hw => ⟨_, _, _, hw, by simp, by simp⟩) ?_
      refine ⟨Bank_c (r1.keep f1) (r2.keep f1) (by omega) fun w2 hf2 => ⟨hf2.at_ (by rw [he1]; exact hb) (by simp), ?_⟩, trivial⟩
      rw [← hm, show min L.length A.length = i by omega]
      refine ⟨_, fun w' _ => eq40 _ _ _ _, ?_⟩
      rw [beq_self_eq_true]
      exact h w2 (f1.trans hf2)
    refine F5.l6.to (C.len_rd (r1.keep hf) ?_)
    rw [stpC_len]
    by_cases h1 : (i : Int) < (L.length : Int)
    · simp only [C.ite_true, C.ite_false, C.pick_true, C.pick_false, C.not_bool, C.field_ptr, C.nilCheck_ptr, C.add_mk, C.sub_mk, C.mul_mk, C.eql_mk, C.neq_mk, C.lss_mk, C.leq_mk, C.gtr_mk, C.geq_mk, C.conv_mk, C.len_mk, C.ext_0, C.ext_1, C.ext3_0, C.ext3_1, C.ext3_2, C.guarded_yes, C.guarded_tf, C.guarded_ft, C.guarded_undef, Bool.not_true, Bool.not_false, Nat.zero_add, eq_self, decide_true, decide_false, h1]
      refine C.len_rd (r2.keep hf) ?_
      rw [ansC_len]
      simp only [C.ite_true, C.ite_false, C.pick_true, C.pick_false, C.not_bool, C.field_ptr, C.nilCheck_ptr, C.add_mk, C.sub_mk, C.mul_mk, C.eql_mk, C.neq_mk, C.lss_mk, C.leq_mk, C.gtr_mk, C.geq_mk, C.conv_mk, C.len_mk, C.ext_0, C.ext_1, C.ext3_0, C.ext3_1, C.ext3_2, C.guarded_yes, C.guarded_tf, C.guarded_ft, C.guarded_undef, Bool.not_true, Bool.not_false, Nat.zero_add, eq_self, decide_true, decide_false, show ¬ ((i : Int) < (A.length : Int)) by omega]
      exact fin
    · simp only [C.ite_true, C.ite_false, C.pick_true, C.pick_false, C.not_bool, C.field_ptr, C.nilCheck_ptr, C.add_mk, C.sub_mk, C.mul_mk, C.eql_mk, C.neq_mk, C.lss_mk, C.leq_mk, C.gtr_mk, C.geq_mk, C.conv_mk, C.len_mk, C.ext_0, C.ext_1, C.ext3_0, C.ext3_1, C.ext3_2, C.guarded_yes, C.guarded_tf, C.guarded_ft, C.guarded_undef, Bool.not_true, Bool.not_false, Nat.zero_add, eq_self, decide_true, decide_false, h1]
      exact fin
  | succ d ih =>
    intro i w hi hf hb
    have hiL : i < L.length := by omega
    have hiA : i < A.length := by omega
    refine F5.l6.to (C.len_rd (r1.keep hf) ?_)
    rw [stpC_len]
    simp only [C.ite_true, C.ite_false, C.pick_true, C.pick_false, C.not_bool, C.field_ptr, C.nilCheck_ptr, C.add_mk, C.sub_mk, C.mul_mk, C.eql_mk, C.neq_mk, C.lss_mk, C.leq_mk, C.gtr_mk, C.geq_mk, C.conv_mk, C.len_mk, C.ext_0, C.ext_1, C.ext3_0, C.ext3_1, C.ext3_2, C.guarded_yes, C.guarded_tf, C.guarded_ft, C.guarded_undef, Bool.not_true, Bool.not_false, Nat.zero_add, eq_self, decide_true, decide_false, show ((i : Int) < (L.length : Int)) by omega]
    refine C.len_rd (r2.keep hf) ?_
    rw [ansC_len]
    simp only [C.ite_true, C.ite_false, C.pick_true, C.pick_false, C.not_bool, C.field_ptr, C.nilCheck_ptr, C.add_mk, C.sub_mk, C.mul_mk, C.eql_mk, C.neq_mk, C.lss_mk, C.leq_mk, C.gtr_mk, C.geq_mk, C.conv_mk, C.len_mk, C.ext_0, C.ext_1, C.ext3_0, C.ext3_1, C.ext3_2, C.guarded_yes, C.guarded_tf, C.guarded_ft, C.guarded_undef, Bool.not_true, Bool.not_false, Nat.zero_add, eq_self, decide_true, decide_false, show ((i : Int) < (A.length : Int)) by omega]
    have hsucc : bsRun m L A (i + 1) = bsStep m L[i] A[i] (bsRun m L A i) := bsAt_get hiL hiA
    have hok := bsRun_ok hmb.1 L A i
    have g1 := stpC_get hiL
    have g2 := ansC_get hiA
    have ih' := fun w' => ih (i + 1) w' (by omega)
    rw [hsucc] at ih'
    generalize hX : L[i] = X at *
    generalize hY : A[i] = Y at *
    generalize hs : bsRun m L A i = s at *
    have b1 := clamp_bd Y.d 0 64 (by omega)
    have b2 := clamp_bd Y.r 0 64 (by omega)
    have nx : ∀ w', Fr [] W0 w' → w'.heap[b8]? = some (sumsB (bsStep m X Y s)) → F5.k7 K (.int .i64 room) lv av (.int .i64 m) (.pointer (some ⟨b8, 0, none⟩)) (.int .i64 (i : Int)) w' := by
      intro w' hf hb
      refine F5.k7.to ?_
      simp only [C.ite_true, C.ite_false, C.pick_true, C.pick_false, C.not_bool, C.field_ptr, C.nilCheck_ptr, C.add_mk, C.sub_mk, C.mul_mk, C.eql_mk, C.neq_mk, C.lss_mk, C.leq_mk, C.gtr_mk, C.geq_mk, C.conv_mk, C.len_mk, C.ext_0, C.ext_1, C.ext3_0, C.ext3_1, C.ext3_2, C.guarded_yes, C.guarded_tf, C.guarded_ft, C.guarded_undef, Bool.not_true, Bool.not_false, Nat.zero_add, eq_self, decide_true, decide_false]
      rw [wrap64_id (n := (i : Int) + 1) (by omega), show (i : Int) + 1 = ((i + 1 : Nat) : Int) by omega]
      exact ih' w' hf hb
    obtain ⟨q1, q2, q3, q4, q5, q6, q7⟩ := hok
    refine F5.k8.to (C.draw_of (fun w' => Fr [] W0 w') fun w1 hf1 he1 => ⟨hf.trans hf1, ?_⟩)
    have f1 := hf.trans hf1
    have hb1 : w1.heap[b8]? = some (sumsB s) := hf1.at_ hb (by simp)
    refine C.idx_rdS (S := fun w' => Fr [] W0 w') (fun w' hw => r2.keep hw) f1 (by omega) (by rw [Int.toNat_natCast]; exact g2) fun gb ob _ hs2 => ?_
    simp only [C.ite_true, C.ite_false, C.pick_true, C.pick_false, C.not_bool, C.field_ptr, C.nilCheck_ptr, C.add_mk, C.sub_mk, C.mul_mk, C.eql_mk, C.neq_mk, C.lss_mk, C.leq_mk, C.gtr_mk, C.geq_mk, C.conv_mk, C.len_mk, C.ext_0, C.ext_1, C.ext3_0, C.ext3_1, C.ext3_2, C.guarded_yes, C.guarded_tf, C.guarded_ft, C.guarded_undef, Bool.not_true, Bool.not_false, Nat.zero_add, eq_self, decide_true, decide_false]
    refine C.idx_rdS (S := fun w' => Fr [] W0 w') (fun w' hw => r2.keep hw) f1 (by omega) (by rw [Int.toNat_natCast]; exact g2) fun gc oc _ hs3 => ?_
    simp only [C.ite_true, C.ite_false, C.pick_true, C.pick_false, C.not_bool, C.field_ptr, C.nilCheck_ptr, C.add_mk, C.sub_mk, C.mul_mk, C.eql_mk, C.neq_mk, C.lss_mk, C.leq_mk, C.gtr_mk, C.geq_mk, C.conv_mk, C.len_mk, C.ext_0, C.ext_1, C.ext3_0, C.ext3_1, C.ext3_2, C.guarded_yes, C.guarded_tf, C.guarded_ft, C.guarded_undef, Bool.not_true, Bool.not_false, Nat.zero_add, eq_self, decide_true, decide_false]
    refine C.load1S_of (v := .int .i64 Y.d) (fun w' hw => by obtain ⟨cs, e, fz, x, y⟩ := hs2 w' hw; exact ⟨cs, e, fz, x, by simpa [ansL] using y 3 (by omega)⟩) ?_
    refine C.load1S_of (v := .int .i64 Y.r) (fun w' hw => by obtain ⟨cs, e, fz, x, y⟩ := hs3 w' hw; exact ⟨cs, e, fz, x, by simpa [ansL] using y 4 (by omega)⟩) ?_
    refine ⟨Near_c _ _ _ ⟨f1, ⟨Near_c _ _ _ ⟨f1, ?_⟩, trivial⟩⟩, trivial⟩
    refine C.idx_rd (r1.keep f1) (by omega) (by rw [Int.toNat_natCast]; exact g1) fun g o cs e fz hg _ hc => ?_
    simp only [C.ite_true, C.ite_false, C.pick_true, C.pick_false, C.not_bool, C.field_ptr, C.nilCheck_ptr, C.add_mk, C.sub_mk, C.mul_mk, C.eql_mk, C.neq_mk, C.lss_mk, C.leq_mk, C.gtr_mk, C.geq_mk, C.conv_mk, C.len_mk, C.ext_0, C.ext_1, C.ext3_0, C.ext3_1, C.ext3_2, C.guarded_yes, C.guarded_tf, C.guarded_ft, C.guarded_undef, Bool.not_true, Bool.not_false, Nat.zero_add, eq_self, decide_true, decide_false]
    refine C.load1_of (v := .int .i64 X.k) hg (by simpa [stpL] using hc 0 (by omega)) ?_
    by_cases hk : X.k = 3
    · simp only [C.ite_true, C.ite_false, C.pick_true, C.pick_false, C.not_bool, C.field_ptr, C.nilCheck_ptr, C.add_mk, C.sub_mk, C.mul_mk, C.eql_mk, C.neq_mk, C.lss_mk, C.leq_mk, C.gtr_mk, C.geq_mk, C.conv_mk, C.len_mk, C.ext_0, C.ext_1, C.ext3_0, C.ext3_1, C.ext3_2, C.guarded_yes, C.guarded_tf, C.guarded_ft, C.guarded_undef, Bool.not_true, Bool.not_false, Nat.zero_add, eq_self, decide_true, decide_false, hk]
      refine C.load1_of (v := .int .i64 (s.i - s.o)) hb1 rfl (C.run_of (min2_run _ _ _ _ _) ?_)
      generalize hz : min (clamp Y.r 0 64) (s.i - s.o) = z at *
      try simp only [C.ite_true, C.ite_false, C.pick_true, C.pick_false, C.not_bool, C.field_ptr, C.nilCheck_ptr, C.add_mk, C.sub_mk, C.mul_mk, C.eql_mk, C.neq_mk, C.lss_mk, C.leq_mk, C.gtr_mk, C.geq_mk, C.conv_mk, C.len_mk, C.ext_0, C.ext_1, C.ext3_0, C.ext3_1, C.ext3_2, C.guarded_yes, C.guarded_tf, C.guarded_ft, C.guarded_undef, Bool.not_true, Bool.not_false, Nat.zero_add, eq_self, decide_true, decide_false]
      refine C.load1_of (v := .int .i64 (s.i - s.o)) hb1 rfl ?_
      simp only [C.ite_true, C.ite_false, C.pick_true, C.pick_false, C.not_bool, C.field_ptr, C.nilCheck_ptr, C.add_mk, C.sub_mk, C.mul_mk, C.eql_mk, C.neq_mk, C.lss_mk, C.leq_mk, C.gtr_mk, C.geq_mk, C.conv_mk, C.len_mk, C.ext_0, C.ext_1, C.ext3_0, C.ext3_1, C.ext3_2, C.guarded_yes, C.guarded_tf, C.guarded_ft, C.guarded_undef, Bool.not_true, Bool.not_false, Nat.zero_add, eq_self, decide_true, decide_false]
      rw [wrap64_id (n := s.i - s.o - z) (by omega)]
      refine C.store1_of hb1 rfl rfl (by simp) fun w2 hu2 => ?_
      refine C.load1_of (v := .int .i64 s.o) hu2.at_ rfl ?_
      simp only [C.ite_true, C.ite_false, C.pick_true, C.pick_false, C.not_bool, C.field_ptr, C.nilCheck_ptr, C.add_mk, C.sub_mk, C.mul_mk, C.eql_mk, C.neq_mk, C.lss_mk, C.leq_mk, C.gtr_mk, C.geq_mk, C.conv_mk, C.len_mk, C.ext_0, C.ext_1, C.ext3_0, C.ext3_1, C.ext3_2, C.guarded_yes, C.guarded_tf, C.guarded_ft, C.guarded_undef, Bool.not_true, Bool.not_false, Nat.zero_add, eq_self, decide_true, decide_false]
      rw [wrap64_id (n := s.o + z) (by omega)]
      refine C.store1_of hu2.at_ rfl rfl (by simp) fun w3 hu3 => ?_
      have f3 : Fr [] W0 w3 := (f1.then hu2.fr fun z hz => .inr (by simp only [List.mem_singleton] at hz; omega)).then hu3.fr fun z hz => .inr (by simp only [List.mem_singleton] at hz; omega)
      have hst : bsStep m X Y s = ⟨s.i, s.o + z, s.l⟩ := by unfold bsStep; rw [if_pos hk, hz]
      have hb3 : w3.heap[b8]? = some (sumsB (bsStep m X Y s)) := by
        rw [hst]
        unfold sumsB
        rw [show s.i - (s.o + z) = s.i - s.o - z by omega]
        exact hu3.at_
      refine F5.k13.to (C.idx_rd (r1.keep f3) (by omega) (by rw [Int.toNat_natCast]; exact g1) fun g o cs e fz hg _ hc => ?_)
      simp only [C.ite_true, C.ite_false, C.pick_true, C.pick_false, C.not_bool, C.field_ptr, C.nilCheck_ptr, C.add_mk, C.sub_mk, C.mul_mk, C.eql_mk, C.neq_mk, C.lss_mk, C.leq_mk, C.gtr_mk, C.geq_mk, C.conv_mk, C.len_mk, C.ext_0, C.ext_1, C.ext3_0, C.ext3_1, C.ext3_2, C.guarded_yes, C.guarded_tf, C.guarded_ft, C.guarded_undef, Bool.not_true, Bool.not_false, Nat.zero_add, eq_self, decide_true, decide_false]
      refine C.load1_of (v := .int .i64 X.k) hg (by simpa [stpL] using hc 0 (by omega)) ?_
      have e15 : ¬ X.k = 15 := by omega
      have e16 : ¬ X.k = 16 := by omega
      simp only [C.ite_true, C.ite_false, C.pick_true, C.pick_false, C.not_bool, C.field_ptr, C.nilCheck_ptr, C.add_mk, C.sub_mk, C.mul_mk, C.eql_mk, C.neq_mk, C.lss_mk, C.leq_mk, C.gtr_mk, C.geq_mk, C.conv_mk, C.len_mk, C.ext_0, C.ext_1, C.ext3_0, C.ext3_1, C.ext3_2, C.guarded_yes, C.guarded_tf, C.guarded_ft, C.guarded_undef, Bool.not_true, Bool.not_false, Nat.zero_add, eq_self, decide_true, decide_false, e15]
      refine C.idx_rd (r1.keep f3) (by omega) (by rw [Int.toNat_natCast]; exact g1) fun g o cs e fz hg _ hc => ?_
      simp only [C.ite_true, C.ite_false, C.pick_true, C.pick_false, C.not_bool, C.field_ptr, C.nilCheck_ptr, C.add_mk, C.sub_mk, C.mul_mk, C.eql_mk, C.neq_mk, C.lss_mk, C.leq_mk, C.gtr_mk, C.geq_mk, C.conv_mk, C.len_mk, C.ext_0, C.ext_1, C.ext3_0, C.ext3_1, C.ext3_2, C.guarded_yes, C.guarded_tf, C.guarded_ft, C.guarded_undef, Bool.not_true, Bool.not_false, Nat.zero_add, eq_self, decide_true, decide_false]
      refine C.load1_of (v := .int .i64 X.k) hg (by simpa [stpL] using hc 0 (by omega)) ?_
      simp only [C.ite_true, C.ite_false, C.pick_true, C.pick_false, C.not_bool, C.field_ptr, C.nilCheck_ptr, C.add_mk, C.sub_mk, C.mul_mk, C.eql_mk, C.neq_mk, C.lss_mk, C.leq_mk, C.gtr_mk, C.geq_mk, C.conv_mk, C.len_mk, C.ext_0, C.ext_1, C.ext3_0, C.ext3_1, C.ext3_2, C.guarded_yes, C.guarded_tf, C.guarded_ft, C.guarded_undef, Bool.not_true, Bool.not_false, Nat.zero_add, eq_self, decide_true, decide_false, e16]
      exact nx w3 f3 hb3
    · simp only [C.ite_true, C.ite_false, C.pick_true, C.pick_false, C.not_bool, C.field_ptr, C.nilCheck_ptr, C.add_mk, C.sub_mk, C.mul_mk, C.eql_mk, C.neq_mk, C.lss_mk, C.leq_mk, C.gtr_mk, C.geq_mk, C.conv_mk, C.len_mk, C.ext_0, C.ext_1, C.ext3_0, C.ext3_1, C.ext3_2, C.guarded_yes, C.guarded_tf, C.guarded_ft, C.guarded_undef, Bool.not_true, Bool.not_false, Nat.zero_add, eq_self, decide_true, decide_false, hk]
      have no : ¬ ((X.k = 15 ∨ X.k = 16) ∧ Y.c = 0) → F5.k7 K (.int .i64 room) lv av (.int .i64 m) (.pointer (some ⟨b8, 0, none⟩)) (.int .i64 (i : Int)) w1 := fun hc => nx w1 f1 (by unfold bsStep; rw [if_neg hk, if_neg hc]; exact hb1)
      have yes : (X.k = 15 ∨ X.k = 16) → Y.c = 0 → C.load1 (.pointer (some ⟨b8, 0, none⟩)) w1 fun x90_20 w20 =>
          C.int .sub (.int .i64 m) x90_20 w20 fun x91_21 w21 => C.run Try.prog (Builtin.min_ #[2, 2] 2 #[.int .i64 (clamp Y.d 0 64), x91_21]) w21 fun x92_22 w22 =>
          C.load1 (.pointer (some ⟨b8, 0, none⟩)) w22 fun x94_24 w24 => C.int .add x94_24 x92_22 w24 fun x96_25 w25 => C.store 1 (.pointer (some ⟨b8, 0, none⟩)) x96_25 w25 fun w27 =>
          C.load1 (.pointer (some ⟨b8, 1, none⟩)) w27 fun x99_29 w29 => C.int .add x99_29 x92_22 w29 fun x101_30 w30 => C.store 1 (.pointer (some ⟨b8, 1, none⟩)) x101_30 w30 fun w32 =>
          C.load1 (.pointer (some ⟨b8, 3, none⟩)) w32 fun x104_34 w34 => C.int .add x104_34 (.int .i64 (clamp Y.d 0 64)) w34 fun x106_35 w35 => C.int .sub x106_35 x92_22 w35 fun x108_36 w36 => C.store 1 (.pointer (some ⟨b8, 3, none⟩)) x108_36 w36 fun w38 =>
          F5.k7 K (.int .i64 room) lv av (.int .i64 m) (.pointer (some ⟨b8, 0, none⟩)) (.int .i64 (i : Int)) w38 := fun hk2 hc => by
        refine C.load1_of (v := .int .i64 (s.i - s.o)) hb1 rfl ?_
        simp only [C.ite_true, C.ite_false, C.pick_true, C.pick_false, C.not_bool, C.field_ptr, C.nilCheck_ptr, C.add_mk, C.sub_mk, C.mul_mk, C.eql_mk, C.neq_mk, C.lss_mk, C.leq_mk, C.gtr_mk, C.geq_mk, C.conv_mk, C.len_mk, C.ext_0, C.ext_1, C.ext3_0, C.ext3_1, C.ext3_2, C.guarded_yes, C.guarded_tf, C.guarded_ft, C.guarded_undef, Bool.not_true, Bool.not_false, Nat.zero_add, eq_self, decide_true, decide_false]
        rw [wrap64_id (n := m - (s.i - s.o)) (by omega)]
        refine C.run_of (min2_run _ _ _ _ _) ?_
        generalize hz : min (clamp Y.d 0 64) (m - (s.i - s.o)) = z at *
        refine C.load1_of (v := .int .i64 (s.i - s.o)) hb1 rfl ?_
        simp only [C.ite_true, C.ite_false, C.pick_true, C.pick_false, C.not_bool, C.field_ptr, C.nilCheck_ptr, C.add_mk, C.sub_mk, C.mul_mk, C.eql_mk, C.neq_mk, C.lss_mk, C.leq_mk, C.gtr_mk, C.geq_mk, C.conv_mk, C.len_mk, C.ext_0, C.ext_1, C.ext3_0, C.ext3_1, C.ext3_2, C.guarded_yes, C.guarded_tf, C.guarded_ft, C.guarded_undef, Bool.not_true, Bool.not_false, Nat.zero_add, eq_self, decide_true, decide_false]
        rw [wrap64_id (n := s.i - s.o + z) (by omega)]
        refine C.store1_of hb1 rfl rfl (by simp) fun w2 hu2 => ?_
        refine C.load1_of (v := .int .i64 s.i) hu2.at_ rfl ?_
        simp only [C.ite_true, C.ite_false, C.pick_true, C.pick_false, C.not_bool, C.field_ptr, C.nilCheck_ptr, C.add_mk, C.sub_mk, C.mul_mk, C.eql_mk, C.neq_mk, C.lss_mk, C.leq_mk, C.gtr_mk, C.geq_mk, C.conv_mk, C.len_mk, C.ext_0, C.ext_1, C.ext3_0, C.ext3_1, C.ext3_2, C.guarded_yes, C.guarded_tf, C.guarded_ft, C.guarded_undef, Bool.not_true, Bool.not_false, Nat.zero_add, eq_self, decide_true, decide_false]
        rw [wrap64_id (n := s.i + z) (by omega)]
        refine C.store1_of hu2.at_ rfl rfl (by simp) fun w3 hu3 => ?_
        refine C.load1_of (v := .int .i64 s.l) hu3.at_ rfl ?_
        simp only [C.ite_true, C.ite_false, C.pick_true, C.pick_false, C.not_bool, C.field_ptr, C.nilCheck_ptr, C.add_mk, C.sub_mk, C.mul_mk, C.eql_mk, C.neq_mk, C.lss_mk, C.leq_mk, C.gtr_mk, C.geq_mk, C.conv_mk, C.len_mk, C.ext_0, C.ext_1, C.ext3_0, C.ext3_1, C.ext3_2, C.guarded_yes, C.guarded_tf, C.guarded_ft, C.guarded_undef, Bool.not_true, Bool.not_false, Nat.zero_add, eq_self, decide_true, decide_false]
        rw [wrap64_id (n := s.l + clamp Y.d 0 64) (by omega), wrap64_id (n := s.l + clamp Y.d 0 64 - z) (by omega)]
        refine C.store1_of hu3.at_ rfl rfl (by simp) fun w4 hu4 => ?_
        have f4 : Fr [] W0 w4 := ((f1.then hu2.fr fun z hz => .inr (by simp only [List.mem_singleton] at hz; omega)).then hu3.fr fun z hz => .inr (by simp only [List.mem_singleton] at hz; omega)).then hu4.fr fun z hz => .inr (by simp only [List.mem_singleton] at hz; omega)
        refine nx w4 f4 ?_
        have hst : bsStep m X Y s = ⟨s.i + z, s.o, s.l + (clamp Y.d 0 64 - z)⟩ := by unfold bsStep; rw [if_neg hk, if_pos ⟨hk2, hc⟩, hz]
        rw [hst]
        unfold sumsB
        rw [show s.i + z - s.o = s.i - s.o + z by omega, show s.l + (clamp Y.d 0 64 - z) = s.l + clamp Y.d 0 64 - z by omega]
        exact hu4.at_
      refine F5.k13.to (C.idx_rd (r1.keep f1) (by omega) (by rw [Int.toNat_natCast]; exact g1) fun g o cs e fz hg _ hc => ?_)
      simp only [C.ite_true, C.ite_false, C.pick_true, C.pick_false, C.not_bool, C.field_ptr, C.nilCheck_ptr, C.add_mk, C.sub_mk, C.mul_mk, C.eql_mk, C.neq_mk, C.lss_mk, C.leq_mk, C.gtr_mk, C.geq_mk, C.conv_mk, C.len_mk, C.ext_0, C.ext_1, C.ext3_0, C.ext3_1, C.ext3_2, C.guarded_yes, C.guarded_tf, C.guarded_ft, C.guarded_undef, Bool.not_true, Bool.not_false, Nat.zero_add, eq_self, decide_true, decide_false]
      refine C.load1_of (v := .int .i64 X.k) hg (by simpa [stpL] using hc 0 (by omega)) ?_
      by_cases h15 : X.k = 15
      · simp only [C.ite_true, C.ite_false, C.pick_true, C.pick_false, C.not_bool, C.field_ptr, C.nilCheck_ptr, C.add_mk, C.sub_mk, C.mul_mk, C.eql_mk, C.neq_mk, C.lss_mk, C.leq_mk, C.gtr_mk, C.geq_mk, C.conv_mk, C.len_mk, C.ext_0, C.ext_1, C.ext3_0, C.ext3_1, C.ext3_2, C.guarded_yes, C.guarded_tf, C.guarded_ft, C.guarded_undef, Bool.not_true, Bool.not_false, Nat.zero_add, eq_self, decide_true, decide_false, h15]
        refine C.idx_rd (r2.keep f1) (by omega) (by rw [Int.toNat_natCast]; exact g2) fun g o cs e fz hg _ hc => ?_
        simp only [C.ite_true, C.ite_false, C.pick_true, C.pick_false, C.not_bool, C.field_ptr, C.nilCheck_ptr, C.add_mk, C.sub_mk, C.mul_mk, C.eql_mk, C.neq_mk, C.lss_mk, C.leq_mk, C.gtr_mk, C.geq_mk, C.conv_mk, C.len_mk, C.ext_0, C.ext_1, C.ext3_0, C.ext3_1, C.ext3_2, C.guarded_yes, C.guarded_tf, C.guarded_ft, C.guarded_undef, Bool.not_true, Bool.not_false, Nat.zero_add, eq_self, decide_true, decide_false]
        refine C.load1_of (v := .int .i64 Y.c) hg (by simpa [ansL] using hc 0 (by omega)) ?_
        by_cases hcc : Y.c = 0
        · simp only [C.ite_true, C.ite_false, C.pick_true, C.pick_false, C.not_bool, C.field_ptr, C.nilCheck_ptr, C.add_mk, C.sub_mk, C.mul_mk, C.eql_mk, C.neq_mk, C.lss_mk, C.leq_mk, C.gtr_mk, C.geq_mk, C.conv_mk, C.len_mk, C.ext_0, C.ext_1, C.ext3_0, C.ext3_1, C.ext3_2, C.guarded_yes, C.guarded_tf, C.guarded_ft, C.guarded_undef, Bool.not_true, Bool.not_false, Nat.zero_add, eq_self, decide_true, decide_false, hcc]
          exact yes (.inl h15) hcc
        · simp only [C.ite_true, C.ite_false, C.pick_true, C.pick_false, C.not_bool, C.field_ptr, C.nilCheck_ptr, C.add_mk, C.sub_mk, C.mul_mk, C.eql_mk, C.neq_mk, C.lss_mk, C.leq_mk, C.gtr_mk, C.geq_mk, C.conv_mk, C.len_mk, C.ext_0, C.ext_1, C.ext3_0, C.ext3_1, C.ext3_2, C.guarded_yes, C.guarded_tf, C.guarded_ft, C.guarded_undef, Bool.not_true, Bool.not_false, Nat.zero_add, eq_self, decide_true, decide_false, hcc]
          exact no fun c => hcc c.2
      · simp only [C.ite_true, C.ite_false, C.pick_true, C.pick_false, C.not_bool, C.field_ptr, C.nilCheck_ptr, C.add_mk, C.sub_mk, C.mul_mk, C.eql_mk, C.neq_mk, C.lss_mk, C.leq_mk, C.gtr_mk, C.geq_mk, C.conv_mk, C.len_mk, C.ext_0, C.ext_1, C.ext3_0, C.ext3_1, C.ext3_2, C.guarded_yes, C.guarded_tf, C.guarded_ft, C.guarded_undef, Bool.not_true, Bool.not_false, Nat.zero_add, eq_self, decide_true, decide_false, h15]
        refine C.idx_rd (r1.keep f1) (by omega) (by rw [Int.toNat_natCast]; exact g1) fun g o cs e fz hg _ hc => ?_
        simp only [C.ite_true, C.ite_false, C.pick_true, C.pick_false, C.not_bool, C.field_ptr, C.nilCheck_ptr, C.add_mk, C.sub_mk, C.mul_mk, C.eql_mk, C.neq_mk, C.lss_mk, C.leq_mk, C.gtr_mk, C.geq_mk, C.conv_mk, C.len_mk, C.ext_0, C.ext_1, C.ext3_0, C.ext3_1, C.ext3_2, C.guarded_yes, C.guarded_tf, C.guarded_ft, C.guarded_undef, Bool.not_true, Bool.not_false, Nat.zero_add, eq_self, decide_true, decide_false]
        refine C.load1_of (v := .int .i64 X.k) hg (by simpa [stpL] using hc 0 (by omega)) ?_
        by_cases h16 : X.k = 16
        · simp only [C.ite_true, C.ite_false, C.pick_true, C.pick_false, C.not_bool, C.field_ptr, C.nilCheck_ptr, C.add_mk, C.sub_mk, C.mul_mk, C.eql_mk, C.neq_mk, C.lss_mk, C.leq_mk, C.gtr_mk, C.geq_mk, C.conv_mk, C.len_mk, C.ext_0, C.ext_1, C.ext3_0, C.ext3_1, C.ext3_2, C.guarded_yes, C.guarded_tf, C.guarded_ft, C.guarded_undef, Bool.not_true, Bool.not_false, Nat.zero_add, eq_self, decide_true, decide_false, h16]
          refine C.idx_rd (r2.keep f1) (by omega) (by rw [Int.toNat_natCast]; exact g2) fun g o cs e fz hg _ hc => ?_
          simp only [C.ite_true, C.ite_false, C.pick_true, C.pick_false, C.not_bool, C.field_ptr, C.nilCheck_ptr, C.add_mk, C.sub_mk, C.mul_mk, C.eql_mk, C.neq_mk, C.lss_mk, C.leq_mk, C.gtr_mk, C.geq_mk, C.conv_mk, C.len_mk, C.ext_0, C.ext_1, C.ext3_0, C.ext3_1, C.ext3_2, C.guarded_yes, C.guarded_tf, C.guarded_ft, C.guarded_undef, Bool.not_true, Bool.not_false, Nat.zero_add, eq_self, decide_true, decide_false]
          refine C.load1_of (v := .int .i64 Y.c) hg (by simpa [ansL] using hc 0 (by omega)) ?_
          by_cases hcc : Y.c = 0
          · simp only [C.ite_true, C.ite_false, C.pick_true, C.pick_false, C.not_bool, C.field_ptr, C.nilCheck_ptr, C.add_mk, C.sub_mk, C.mul_mk, C.eql_mk, C.neq_mk, C.lss_mk, C.leq_mk, C.gtr_mk, C.geq_mk, C.conv_mk, C.len_mk, C.ext_0, C.ext_1, C.ext3_0, C.ext3_1, C.ext3_2, C.guarded_yes, C.guarded_tf, C.guarded_ft, C.guarded_undef, Bool.not_true, Bool.not_false, Nat.zero_add, eq_self, decide_true, decide_false, hcc]
            exact yes (.inr h16) hcc
          · simp only [C.ite_true, C.ite_false, C.pick_true, C.pick_false, C.not_bool, C.field_ptr, C.nilCheck_ptr, C.add_mk, C.sub_mk, C.mul_mk, C.eql_mk, C.neq_mk, C.lss_mk, C.leq_mk, C.gtr_mk, C.geq_mk, C.conv_mk, C.len_mk, C.ext_0, C.ext_1, C.ext3_0, C.ext3_1, C.ext3_2, C.guarded_yes, C.guarded_tf, C.guarded_ft, C.guarded_undef, Bool.not_true, Bool.not_false, Nat.zero_add, eq_self, decide_true, decide_false, hcc]
            exact no fun c => hcc c.2
        · simp only [C.ite_true, C.ite_false, C.pick_true, C.pick_false, C.not_bool, C.field_ptr, C.nilCheck_ptr, C.add_mk, C.sub_mk, C.mul_mk, C.eql_mk, C.neq_mk, C.lss_mk, C.leq_mk, C.gtr_mk, C.geq_mk, C.conv_mk, C.len_mk, C.ext_0, C.ext_1, C.ext3_0, C.ext3_1, C.ext3_2, C.guarded_yes, C.guarded_tf, C.guarded_ft, C.guarded_undef, Bool.not_true, Bool.not_false, Nat.zero_add, eq_self, decide_true, decide_false, h16]
          exact no fun c => c.1.elim h15 h16
theorem AuditBank_c {lv av : Value} {L : List Stp} {A : List Ans} (room : Int) (r1 : RdS w lv 7 (stpC L)) (r2 : RdS w av 5 (ansC A)) (h : ∀ w', Fr [] w w' → K (.bool true) w') : C.call Try.prog 5 #[.int .i64 room, lv, av] w K := by
  refine F5.sh (Alive_c fun w1 f1 => ?_)
  simp only [C.ite_true, C.ite_false, C.pick_true, C.pick_false, C.not_bool, C.field_ptr, C.nilCheck_ptr, C.add_mk, C.sub_mk, C.mul_mk, C.eql_mk, C.neq_mk, C.lss_mk, C.leq_mk, C.gtr_mk, C.geq_mk, C.conv_mk, C.len_mk, C.ext_0, C.ext_1, C.ext3_0, C.ext3_1, C.ext3_2, C.guarded_yes, C.guarded_tf, C.guarded_ft, C.guarded_undef, Bool.not_true, Bool.not_false, Nat.zero_add, eq_self, decide_true, decide_false]
  refine F5.k3.to (few_c (r1.keep f1) fun v' r1' => Near_c _ _ _ (C.run_of b40_0 (C.new_of fun b8 w2 hw2 => C.store_all (x := sumsV ⟨0, 0, 0⟩) hw2.at_ rfl (sumsV_ones _) rfl fun w3 hu3 => ?_)))
  have e := hw2.is
  have f3 : Fr [] w1 w3 := hw2.fr.then hu3.fr fun z hz => .inr (by simp only [List.mem_singleton] at hz; omega)
  exact bank_loop (W0 := w1) r1' (r2.keep f1) (by simp; omega) rfl (by omega) (fun w' hf => h w' (f1.trans hf)) (min (L.take 60).length A.length) 0 w3 (by omega) f3 hu3.at_
/-! ### The cells of the arguments -/
theorem okI {k : IntKind} {ks : List CK} : ∀ {x : List Value}, okCells (.int k :: ks) x → ∃ n vs, x = .int k n :: vs ∧ okCells ks vs
  | [], h => h.elim
  | v :: vs, h => by
    obtain ⟨⟨n, hn, _⟩, h2⟩ := h
    exact ⟨n, vs, by rw [hn], h2⟩
theorem ok0 : ∀ {x : List Value}, okCells [] x → x = []
  | [], _ => rfl
  | _ :: _, h => h.elim
theorem stpC_of : ∀ (xs : List (List Value)), (∀ x ∈ xs, okCells [.int .i64, .int .i64, .int .i64, .int .i64, .int .i64, .int .i64, .int .i64] x) → ∃ l, xs = stpC l
  | [], _ => ⟨[], rfl⟩
  | x :: xs, h => by
    obtain ⟨l, hl⟩ := stpC_of xs fun y hy => h y (by simp [hy])
    obtain ⟨a, y1, e1, h1⟩ := okI (h x (by simp))
    obtain ⟨b, y2, e2, h2⟩ := okI h1
    obtain ⟨c, y3, e3, h3⟩ := okI h2
    obtain ⟨d, y4, e4, h4⟩ := okI h3
    obtain ⟨e, y5, e5, h5⟩ := okI h4
    obtain ⟨f, y6, e6, h6⟩ := okI h5
    obtain ⟨g, y7, e7, h7⟩ := okI h6
    exact ⟨⟨a, b, c, d, e, f, g⟩ :: l, by rw [hl, e1, e2, e3, e4, e5, e6, e7, ok0 h7]; rfl⟩
theorem ansC_of : ∀ (xs : List (List Value)), (∀ x ∈ xs, okCells [.int .i64, .int .i64, .int .i64, .int .i64, .int .i64] x) → ∃ l, xs = ansC l
  | [], _ => ⟨[], rfl⟩
  | x :: xs, h => by
    obtain ⟨l, hl⟩ := ansC_of xs fun y hy => h y (by simp [hy])
    obtain ⟨a, y1, e1, h1⟩ := okI (h x (by simp))
    obtain ⟨b, y2, e2, h2⟩ := okI h1
    obtain ⟨c, y3, e3, h3⟩ := okI h2
    obtain ⟨d, y4, e4, h4⟩ := okI h3
    obtain ⟨e, y5, e5, h5⟩ := okI h4
    exact ⟨⟨a, b, c, d, e⟩ :: l, by rw [hl, e1, e2, e3, e4, e5, ok0 h5]; rfl⟩
theorem boolC_of : ∀ (xs : List (List Value)), (∀ x ∈ xs, okCells [.bool] x) → ∃ l, xs = boolC l
  | [], _ => ⟨[], rfl⟩
  | x :: xs, h => by
    obtain ⟨l, hl⟩ := boolC_of xs fun y hy => h y (by simp [hy])
    obtain ⟨a, ha⟩ := okB (h x (by simp))
    exact ⟨a :: l, by rw [hl, ha]; rfl⟩
end
end Go.Proofs.YtfhgjncbhjjbfaaV
