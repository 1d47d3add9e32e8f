/- DomHolder: what its call comes to. -/
import Derived.Test.YtfhgjncbhjjbfaaDom3
namespace Go.Proofs.YtfhgjncbhjjbfaaV
open Go Go.Proofs Go.RowKit
set_option linter.unusedVariables false
set_option linter.unusedSimpArgs false
set_option maxRecDepth 10000
theorem hd_nat (G : Gr) (i j : Nat) : G.hd (i : Int) (j : Int) = G.hold i j := by
  unfold Gr.hd
  rw [decide_eq_true (by omega), Bool.true_and, Int.toNat_natCast, Int.toNat_natCast]
theorem holderL_len (G : Gr) : G.holderL.length = G.n := by simp [Gr.holderL]
theorem holderL_get {G : Gr} {j : Nat} (h : j < G.holderL.length) : G.holderL[j] = if G.rch j = true then G.best j G.n else -2 := by simp [Gr.holderL]
section
variable {K : VK} {w : World}
/-- What is known all along. -/
structure HD (W1 : World) (b : Nat) (nv rv lv dv : Value) (G : Gr) : Prop where
  g : IsG W1 nv rv G
  b : GBlk W1 b 46 nv rv
  l : RdS W1 lv 1 (intC G.holderL)
  d : RdS W1 dv 1 (intC G.distL)
theorem dh_end {W1 : World} {b j : Nat} {nv rv lv dv : Value} {G : Gr} {o : Bool} (hH : HD W1 b nv rv lv dv G) (hf : Fr [] W1 w) (hj : j < G.n) (hr : G.rch j = true) (ho : o = true ↔ ∃ i, i < G.n ∧ i ≠ j ∧ G.hold i j = true)
    (h : ∀ w', Fr [] W1 w' → F7.k9 K (.pointer (some ⟨b, 0, none⟩)) lv dv (.int .i64 (j : Int)) w') : F7.k21 K (.pointer (some ⟨b, 0, none⟩)) lv dv (.int .i64 (j : Int)) (.bool o) w := by
  have lj : G.holderL[j]'(by rw [holderL_len]; exact hj) = G.best j G.n := by rw [holderL_get, if_pos hr]
  refine F7.k21.to (C.draw_of (fun w' => Fr [] W1 w') fun w1 hf1 he1 => ⟨hf.trans hf1, ?_⟩)
  have f1 := hf.trans hf1
  cases o with
  | false =>
    have hb : G.best j G.n = -1 := best_none fun i hi hij => by
      cases c : G.hold i j with
      | false => rfl
      | true => have := ho.2 ⟨i, hi, hij, c⟩; cases this
    have e : ¬ ((-1 : Int) ≠ -1) := by simp
    simp only [C.ite_true, C.ite_false, C.pick_true, C.pick_false, C.not_bool, C.field_ptr, C.nilCheck_ptr, C.add_mk, C.sub_mk, C.mul_mk, C.eql_mk, C.neq_mk, C.lss_mk, C.leq_mk, C.gtr_mk, C.geq_mk, C.conv_mk, C.len_mk, C.ext_0, C.ext_1, C.ext3_0, C.ext3_1, C.ext3_2, C.guarded_yes, C.guarded_tf, C.guarded_ft, C.guarded_undef, Bool.not_true, Bool.not_false, Nat.zero_add, eq_self, decide_true, decide_false, and_true]
    refine C.idx_intS (S := fun w' => Fr [] W1 w') (fun w' hw => hH.l.keep hw) f1 (by rw [holderL_len]; exact hj) fun g o hs => C.load1S_of hs ?_
    rw [lj, hb]
    simp only [C.ite_true, C.ite_false, C.pick_true, C.pick_false, C.not_bool, C.field_ptr, C.nilCheck_ptr, C.add_mk, C.sub_mk, C.mul_mk, C.eql_mk, C.neq_mk, C.lss_mk, C.leq_mk, C.gtr_mk, C.geq_mk, C.conv_mk, C.len_mk, C.ext_0, C.ext_1, C.ext3_0, C.ext3_1, C.ext3_2, C.guarded_yes, C.guarded_tf, C.guarded_ft, C.guarded_undef, Bool.not_true, Bool.not_false, Nat.zero_add, eq_self, decide_true, decide_false, e, and_true]
    exact ⟨f1, h w1 f1⟩
  | true =>
    obtain ⟨i, hi, hij, hh⟩ := ho.1 rfl
    obtain ⟨q1, q2, q3⟩ := best_some hij hh
    have q0 := (best_hold hij hh).1
    simp only [C.ite_true, C.ite_false, C.pick_true, C.pick_false, C.not_bool, C.field_ptr, C.nilCheck_ptr, C.add_mk, C.sub_mk, C.mul_mk, C.eql_mk, C.neq_mk, C.lss_mk, C.leq_mk, C.gtr_mk, C.geq_mk, C.conv_mk, C.len_mk, C.ext_0, C.ext_1, C.ext3_0, C.ext3_1, C.ext3_2, C.guarded_yes, C.guarded_tf, C.guarded_ft, C.guarded_undef, Bool.not_true, Bool.not_false, Nat.zero_add, eq_self, decide_true, decide_false, and_true]
    refine C.idx_intS (S := fun w' => Fr [] W1 w') (fun w' hw => hH.l.keep hw) f1 (by rw [holderL_len]; exact hj) fun g o hs => C.load1S_of hs ?_
    rw [lj]
    simp only [C.ite_true, C.ite_false, C.pick_true, C.pick_false, C.not_bool, C.field_ptr, C.nilCheck_ptr, C.add_mk, C.sub_mk, C.mul_mk, C.eql_mk, C.neq_mk, C.lss_mk, C.leq_mk, C.gtr_mk, C.geq_mk, C.conv_mk, C.len_mk, C.ext_0, C.ext_1, C.ext3_0, C.ext3_1, C.ext3_2, C.guarded_yes, C.guarded_tf, C.guarded_ft, C.guarded_undef, Bool.not_true, Bool.not_false, Nat.zero_add, eq_self, decide_true, decide_false, q1]
    refine C.idx_intS (S := fun w' => Fr [] W1 w') (fun w' hw => hH.l.keep hw) f1 (by rw [holderL_len]; exact hj) fun g o hs => C.len_rd (hH.d.keep f1) (C.load1S_of hs ?_)
    have e : ¬ (G.best j G.n ≥ (G.n : Int)) := by omega
    rw [lj, intC_len, distL_len]
    simp only [C.ite_true, C.ite_false, C.pick_true, C.pick_false, C.not_bool, C.field_ptr, C.nilCheck_ptr, C.add_mk, C.sub_mk, C.mul_mk, C.eql_mk, C.neq_mk, C.lss_mk, C.leq_mk, C.gtr_mk, C.geq_mk, C.conv_mk, C.len_mk, C.ext_0, C.ext_1, C.ext3_0, C.ext3_1, C.ext3_2, C.guarded_yes, C.guarded_tf, C.guarded_ft, C.guarded_undef, Bool.not_true, Bool.not_false, Nat.zero_add, eq_self, decide_true, decide_false, e]
    refine C.idx_intS (S := fun w' => Fr [] W1 w') (fun w' hw => hH.l.keep hw) f1 (by rw [holderL_len]; exact hj) fun g o hs => ?_
    refine C.loadAS_of (vs := [nv, rv]) (fun w' hw => ⟨_, _, _, hH.b.keep hw (by simp), by simp, by simp⟩) (C.load1S_of hs (holds36_c (hH.g.keep f1) fun w2 hf2 => ⟨f1.trans hf2, ?_⟩))
    have e2 : G.hd (G.holderL[j]'(by rw [holderL_len]; exact hj)) (j : Int) = true := by
      rw [lj, show G.best j G.n = ((G.best j G.n).toNat : Int) by omega, hd_nat]
      exact q3
    rw [e2]
    simp only [C.ite_true, C.ite_false, C.pick_true, C.pick_false, C.not_bool, C.field_ptr, C.nilCheck_ptr, C.add_mk, C.sub_mk, C.mul_mk, C.eql_mk, C.neq_mk, C.lss_mk, C.leq_mk, C.gtr_mk, C.geq_mk, C.conv_mk, C.len_mk, C.ext_0, C.ext_1, C.ext3_0, C.ext3_1, C.ext3_2, C.guarded_yes, C.guarded_tf, C.guarded_ft, C.guarded_undef, Bool.not_true, Bool.not_false, Nat.zero_add, eq_self, decide_true, decide_false]
    exact h w2 (f1.trans hf2)
theorem dh_inner {W1 : World} {b j : Nat} {nv rv lv dv : Value} {G : Gr} (hH : HD W1 b nv rv lv dv G) (hj : j < G.n) (hr : G.rch j = true)
    (h : ∀ w', Fr [] W1 w' → F7.k9 K (.pointer (some ⟨b, 0, none⟩)) lv dv (.int .i64 (j : Int)) w') :
    ∀ (d i : Nat) (o : Bool) (w : World), G.n = i + d → Fr [] W1 w → (o = true ↔ ∃ i', i' < i ∧ i' ≠ j ∧ G.hold i' j = true) → F7.l15 K (.pointer (some ⟨b, 0, none⟩)) lv dv (.int .i64 (j : Int)) (.bool o) (.int .i64 (i : Int)) w := by
  have hfew := hH.g.few
  have lj : G.holderL[j]'(by rw [holderL_len]; exact hj) = G.best j G.n := by rw [holderL_get, if_pos hr]
  intro d
  induction d with
  | zero =>
    intro i o w hd hf ho
    refine F7.l15.to (C.len_rd (hH.d.keep hf) ?_)
    obtain rfl : i = G.n := by omega
    rw [intC_len, distL_len]
    simp only [C.ite_true, C.ite_false, C.pick_true, C.pick_false, C.not_bool, C.field_ptr, C.nilCheck_ptr, C.add_mk, C.sub_mk, C.mul_mk, C.eql_mk, C.neq_mk, C.lss_mk, C.leq_mk, C.gtr_mk, C.geq_mk, C.conv_mk, C.len_mk, C.ext_0, C.ext_1, C.ext3_0, C.ext3_1, C.ext3_2, C.guarded_yes, C.guarded_tf, C.guarded_ft, C.guarded_undef, Bool.not_true, Bool.not_false, Nat.zero_add, eq_self, decide_true, decide_false, show ¬ ((G.n : Int) < (G.n : Int)) by omega]
    exact dh_end hH hf hj hr ho h
  | succ d ih =>
    intro i o w hd hf ho
    refine F7.l15.to (C.len_rd (hH.d.keep hf) ?_)
    rw [intC_len, distL_len]
    simp only [C.ite_true, C.ite_false, C.pick_true, C.pick_false, C.not_bool, C.field_ptr, C.nilCheck_ptr, C.add_mk, C.sub_mk, C.mul_mk, C.eql_mk, C.neq_mk, C.lss_mk, C.leq_mk, C.gtr_mk, C.geq_mk, C.conv_mk, C.len_mk, C.ext_0, C.ext_1, C.ext3_0, C.ext3_1, C.ext3_2, C.guarded_yes, C.guarded_tf, C.guarded_ft, C.guarded_undef, Bool.not_true, Bool.not_false, Nat.zero_add, eq_self, decide_true, decide_false, show ((i : Int) < (G.n : Int)) by omega]
    have nx : ∀ (o' : Bool) (w' : World), Fr [] W1 w' → (o' = true ↔ ∃ i', i' < i + 1 ∧ i' ≠ j ∧ G.hold i' j = true) → F7.k16 K (.pointer (some ⟨b, 0, none⟩)) lv dv (.int .i64 (j : Int)) (.bool o') (.int .i64 (i : Int)) w' := by
      intro o' w' a c
      refine F7.k16.to ?_
      simp only [C.ite_true, C.ite_false, C.pick_true, C.pick_false, C.not_bool, C.field_ptr, C.nilCheck_ptr, C.add_mk, C.sub_mk, C.mul_mk, C.eql_mk, C.neq_mk, C.lss_mk, C.leq_mk, C.gtr_mk, C.geq_mk, C.conv_mk, C.len_mk, C.ext_0, C.ext_1, C.ext3_0, C.ext3_1, C.ext3_2, C.guarded_yes, C.guarded_tf, C.guarded_ft, C.guarded_undef, Bool.not_true, Bool.not_false, Nat.zero_add, eq_self, decide_true, decide_false]
      rw [wrap64_id (n := (i : Int) + 1) (by omega), show (i : Int) + 1 = ((i + 1 : Nat) : Int) by omega]
      exact ih (i + 1) o' w' (by omega) a c
    have skip : ∀ w', Fr [] W1 w' → ¬ (i ≠ j ∧ G.hold i j = true) → F7.k16 K (.pointer (some ⟨b, 0, none⟩)) lv dv (.int .i64 (j : Int)) (.bool o) (.int .i64 (i : Int)) w' := by
      intro w' a c
      refine nx o w' a ⟨fun e => ?_, fun ⟨i', e1, e2, e3⟩ => ?_⟩
      · obtain ⟨i', e1, e2, e3⟩ := ho.1 e
        exact ⟨i', by omega, e2, e3⟩
      · rcases Nat.lt_or_ge i' i with x | x
        · exact ho.2 ⟨i', x, e2, e3⟩
        · obtain rfl : i' = i := by omega
          exact absurd ⟨e2, e3⟩ c
    refine F7.k17.to ?_
    by_cases hij : i = j
    · have e : ((i : Int) = (j : Int)) := by omega
      rw [C.eql_mk, decide_eq_true e]
      simp only [C.ite_true, C.ite_false, C.pick_true, C.pick_false, C.not_bool, C.field_ptr, C.nilCheck_ptr, C.add_mk, C.sub_mk, C.mul_mk, C.eql_mk, C.neq_mk, C.lss_mk, C.leq_mk, C.gtr_mk, C.geq_mk, C.conv_mk, C.len_mk, C.ext_0, C.ext_1, C.ext3_0, C.ext3_1, C.ext3_2, C.guarded_yes, C.guarded_tf, C.guarded_ft, C.guarded_undef, Bool.not_true, Bool.not_false, Nat.zero_add, eq_self, decide_true, decide_false]
      exact skip w hf fun c => c.1 hij
    · have e : ¬ ((i : Int) = (j : Int)) := by omega
      rw [C.eql_mk, decide_eq_false e]
      simp only [C.ite_true, C.ite_false, C.pick_true, C.pick_false, C.not_bool, C.field_ptr, C.nilCheck_ptr, C.add_mk, C.sub_mk, C.mul_mk, C.eql_mk, C.neq_mk, C.lss_mk, C.leq_mk, C.gtr_mk, C.geq_mk, C.conv_mk, C.len_mk, C.ext_0, C.ext_1, C.ext3_0, C.ext3_1, C.ext3_2, C.guarded_yes, C.guarded_tf, C.guarded_ft, C.guarded_undef, Bool.not_true, Bool.not_false, Nat.zero_add, eq_self, decide_true, decide_false]
      refine (hH.b.keep hf (by simp)).all ?_
      try simp only [C.ite_true, C.ite_false, C.pick_true, C.pick_false, C.not_bool, C.field_ptr, C.nilCheck_ptr, C.add_mk, C.sub_mk, C.mul_mk, C.eql_mk, C.neq_mk, C.lss_mk, C.leq_mk, C.gtr_mk, C.geq_mk, C.conv_mk, C.len_mk, C.ext_0, C.ext_1, C.ext3_0, C.ext3_1, C.ext3_2, C.guarded_yes, C.guarded_tf, C.guarded_ft, C.guarded_undef, Bool.not_true, Bool.not_false, Nat.zero_add, eq_self, decide_true, decide_false]
      refine holds36_c (hH.g.keep hf) fun w1 hf1 => ?_
      have f1 := hf.trans hf1
      rw [hd_nat]
      cases hh : G.hold i j with
      | false =>
        simp only [C.ite_true, C.ite_false, C.pick_true, C.pick_false, C.not_bool, C.field_ptr, C.nilCheck_ptr, C.add_mk, C.sub_mk, C.mul_mk, C.eql_mk, C.neq_mk, C.lss_mk, C.leq_mk, C.gtr_mk, C.geq_mk, C.conv_mk, C.len_mk, C.ext_0, C.ext_1, C.ext3_0, C.ext3_1, C.ext3_2, C.guarded_yes, C.guarded_tf, C.guarded_ft, C.guarded_undef, Bool.not_true, Bool.not_false, Nat.zero_add, eq_self, decide_true, decide_false]
        exact skip w1 f1 fun c => by rw [hh] at c; simp at c
      | true =>
        simp only [C.ite_true, C.ite_false, C.pick_true, C.pick_false, C.not_bool, C.field_ptr, C.nilCheck_ptr, C.add_mk, C.sub_mk, C.mul_mk, C.eql_mk, C.neq_mk, C.lss_mk, C.leq_mk, C.gtr_mk, C.geq_mk, C.conv_mk, C.len_mk, C.ext_0, C.ext_1, C.ext3_0, C.ext3_1, C.ext3_2, C.guarded_yes, C.guarded_tf, C.guarded_ft, C.guarded_undef, Bool.not_true, Bool.not_false, Nat.zero_add, eq_self, decide_true, decide_false]
        have q := best_hold hij hh
        refine F7.k18.to (C.draw_of (fun w' => Fr [] W1 w') fun w2 hf2 he2 => ⟨f1.trans hf2, ?_⟩)
        have f2 := f1.trans hf2
        refine C.idx_intS (S := fun w' => Fr [] W1 w') (fun w' hw => hH.l.keep hw) f2 (by rw [holderL_len]; exact hj) fun g o hs => C.load1S_of hs ?_
        rw [lj]
        have e : ¬ (G.best j G.n < 0) := by omega
        simp only [C.ite_true, C.ite_false, C.pick_true, C.pick_false, C.not_bool, C.field_ptr, C.nilCheck_ptr, C.add_mk, C.sub_mk, C.mul_mk, C.eql_mk, C.neq_mk, C.lss_mk, C.leq_mk, C.gtr_mk, C.geq_mk, C.conv_mk, C.len_mk, C.ext_0, C.ext_1, C.ext3_0, C.ext3_1, C.ext3_2, C.guarded_yes, C.guarded_tf, C.guarded_ft, C.guarded_undef, Bool.not_true, Bool.not_false, Nat.zero_add, eq_self, decide_true, decide_false, e, and_true]
        refine C.idx_intS (S := fun w' => Fr [] W1 w') (fun w' hw => hH.l.keep hw) f2 (by rw [holderL_len]; exact hj) fun g o hs => ?_
        refine C.loadAS_of (vs := [nv, rv]) (fun w' hw => ⟨_, _, _, hH.b.keep hw (by simp), by simp, by simp⟩) (C.load1S_of hs (holds36_c (hH.g.keep f2) fun w3 hf3 => ⟨f2.trans hf3, ?_⟩))
        have e2 : G.hd (i : Int) (G.holderL[j]'(by rw [holderL_len]; exact hj)) = true := by
          rw [lj, show G.best j G.n = ((G.best j G.n).toNat : Int) by omega, hd_nat]
          exact q.2
        rw [e2]
        simp only [C.ite_true, C.ite_false, C.pick_true, C.pick_false, C.not_bool, C.field_ptr, C.nilCheck_ptr, C.add_mk, C.sub_mk, C.mul_mk, C.eql_mk, C.neq_mk, C.lss_mk, C.leq_mk, C.gtr_mk, C.geq_mk, C.conv_mk, C.len_mk, C.ext_0, C.ext_1, C.ext3_0, C.ext3_1, C.ext3_2, C.guarded_yes, C.guarded_tf, C.guarded_ft, C.guarded_undef, Bool.not_true, Bool.not_false, Nat.zero_add, eq_self, decide_true, decide_false]
        exact nx true w3 (f2.trans hf3) ⟨fun _ => ⟨i, by omega, hij, hh⟩, fun _ => rfl⟩
theorem dh_loop {W1 : World} {b : Nat} {nv rv lv dv : Value} {G : Gr} (hH : HD W1 b nv rv lv dv G) (h : ∀ w', Fr [] W1 w' → K (.bool true) w') :
    ∀ (d j : Nat) (w : World), G.n = j + d → Fr [] W1 w → F7.l8 K (.pointer (some ⟨b, 0, none⟩)) lv dv (.int .i64 (j : Int)) w := by
  have hfew := hH.g.few
  intro d
  induction d with
  | zero =>
    intro j w hd hf
    refine F7.l8.to (C.len_rd (hH.d.keep hf) ?_)
    rw [intC_len, distL_len]
    simp only [C.ite_true, C.ite_false, C.pick_true, C.pick_false, C.not_bool, C.field_ptr, C.nilCheck_ptr, C.add_mk, C.sub_mk, C.mul_mk, C.eql_mk, C.neq_mk, C.lss_mk, C.leq_mk, C.gtr_mk, C.geq_mk, C.conv_mk, C.len_mk, C.ext_0, C.ext_1, C.ext3_0, C.ext3_1, C.ext3_2, C.guarded_yes, C.guarded_tf, C.guarded_ft, C.guarded_undef, Bool.not_true, Bool.not_false, Nat.zero_add, eq_self, decide_true, decide_false, show ¬ ((j : Int) < (G.n : Int)) by omega]
    exact F7.k23.to (h w hf)
  | succ d ih =>
    intro j w hd hf
    have hj : j < G.n := by omega
    refine F7.l8.to (C.len_rd (hH.d.keep hf) ?_)
    rw [intC_len, distL_len]
    simp only [C.ite_true, C.ite_false, C.pick_true, C.pick_false, C.not_bool, C.field_ptr, C.nilCheck_ptr, C.add_mk, C.sub_mk, C.mul_mk, C.eql_mk, C.neq_mk, C.lss_mk, C.leq_mk, C.gtr_mk, C.geq_mk, C.conv_mk, C.len_mk, C.ext_0, C.ext_1, C.ext3_0, C.ext3_1, C.ext3_2, C.guarded_yes, C.guarded_tf, C.guarded_ft, C.guarded_undef, Bool.not_true, Bool.not_false, Nat.zero_add, eq_self, decide_true, decide_false, show ((j : Int) < (G.n : Int)) by omega]
    have nx : ∀ w', Fr [] W1 w' → F7.k9 K (.pointer (some ⟨b, 0, none⟩)) lv dv (.int .i64 (j : Int)) w' := by
      intro w' a
      refine F7.k9.to ?_
      simp only [C.ite_true, C.ite_false, C.pick_true, C.pick_false, C.not_bool, C.field_ptr, C.nilCheck_ptr, C.add_mk, C.sub_mk, C.mul_mk, C.eql_mk, C.neq_mk, C.lss_mk, C.leq_mk, C.gtr_mk, C.geq_mk, C.conv_mk, C.len_mk, C.ext_0, C.ext_1, C.ext3_0, C.ext3_1, C.ext3_2, C.guarded_yes, C.guarded_tf, C.guarded_ft, C.guarded_undef, Bool.not_true, Bool.not_false, Nat.zero_add, eq_self, decide_true, decide_false]
      rw [wrap64_id (n := (j : Int) + 1) (by omega), show (j : Int) + 1 = ((j + 1 : Nat) : Int) by omega]
      exact ih (j + 1) w' (by omega) a
    refine F7.k10.to (C.idx_int (hH.d.keep hf) (by rw [distL_len]; exact hj) fun g o cs e fz hg hc => C.load1_of hg hc ?_)
    rw [distL_get]
    by_cases hr : G.dst j < 0
    · simp only [C.ite_true, C.ite_false, C.pick_true, C.pick_false, C.not_bool, C.field_ptr, C.nilCheck_ptr, C.add_mk, C.sub_mk, C.mul_mk, C.eql_mk, C.neq_mk, C.lss_mk, C.leq_mk, C.gtr_mk, C.geq_mk, C.conv_mk, C.len_mk, C.ext_0, C.ext_1, C.ext3_0, C.ext3_1, C.ext3_2, C.guarded_yes, C.guarded_tf, C.guarded_ft, C.guarded_undef, Bool.not_true, Bool.not_false, Nat.zero_add, eq_self, decide_true, decide_false, hr]
      refine C.idx_int (hH.l.keep hf) (by rw [holderL_len]; exact hj) fun g o cs e fz hg hc => C.load1_of hg hc ?_
      rw [holderL_get, if_neg (by rw [rch_iff]; omega)]
      have e : ¬ ((-2 : Int) ≠ -2) := by simp
      simp only [C.ite_true, C.ite_false, C.pick_true, C.pick_false, C.not_bool, C.field_ptr, C.nilCheck_ptr, C.add_mk, C.sub_mk, C.mul_mk, C.eql_mk, C.neq_mk, C.lss_mk, C.leq_mk, C.gtr_mk, C.geq_mk, C.conv_mk, C.len_mk, C.ext_0, C.ext_1, C.ext3_0, C.ext3_1, C.ext3_2, C.guarded_yes, C.guarded_tf, C.guarded_ft, C.guarded_undef, Bool.not_true, Bool.not_false, Nat.zero_add, eq_self, decide_true, decide_false, e]
      exact nx w hf
    · simp only [C.ite_true, C.ite_false, C.pick_true, C.pick_false, C.not_bool, C.field_ptr, C.nilCheck_ptr, C.add_mk, C.sub_mk, C.mul_mk, C.eql_mk, C.neq_mk, C.lss_mk, C.leq_mk, C.gtr_mk, C.geq_mk, C.conv_mk, C.len_mk, C.ext_0, C.ext_1, C.ext3_0, C.ext3_1, C.ext3_2, C.guarded_yes, C.guarded_tf, C.guarded_ft, C.guarded_undef, Bool.not_true, Bool.not_false, Nat.zero_add, eq_self, decide_true, decide_false, hr]
      exact F7.k13.to (dh_inner hH hj (rch_iff.2 (by omega)) nx G.n 0 false w (by omega) hf ⟨fun e => (by cases e), fun ⟨i', e1, _⟩ => by omega⟩)
theorem DomHolder_c {nv rv : Value} {G : Gr} (hG : IsG0 w nv rv G) (h : ∀ w', Fr [] w w' → K (.bool true) w') : C.call Try.prog 7 #[.agg #[nv, rv]] w K := by
  refine F7.sh (GBlk.new0 hG fun b w1 hf1 hb1 hb hG1 => alive36_c fun w2 hf2 => ?_)
  simp only [C.ite_true, C.ite_false, C.pick_true, C.pick_false, C.not_bool, C.field_ptr, C.nilCheck_ptr, C.add_mk, C.sub_mk, C.mul_mk, C.eql_mk, C.neq_mk, C.lss_mk, C.leq_mk, C.gtr_mk, C.geq_mk, C.conv_mk, C.len_mk, C.ext_0, C.ext_1, C.ext3_0, C.ext3_1, C.ext3_2, C.guarded_yes, C.guarded_tf, C.guarded_ft, C.guarded_undef, Bool.not_true, Bool.not_false, Nat.zero_add, eq_self, decide_true, decide_false]
  refine F7.k3.to ((hb.keep hf2 (by simp)).all (few36_c hG (hf1.trans hf2) fun nv' w3 hf3 hG3 => GBlk.set (hb.keep (hf2.trans hf3) (by simp)) (hG3.keep ((hf1.trans hf2).trans hf3)) fun w4 hu => ?_))
  have f04 : Fr [] w w4 := ((hf1.trans hf2).trans hf3).then hu.fr fun x hx => .inr (by simp only [List.mem_singleton] at hx; omega)
  have hG4 := hG3.keep f04
  have hb4 : GBlk w4 b 46 nv' rv := hu.at_
  generalize G.cut 14 = H at *
  refine C.draw_of (fun w' => Fr [] w4 w') fun w5 hf5 he5 => ⟨hf5, ?_⟩
  simp only [and_true]
  refine C.loadAS_of (vs := [nv', rv]) (fun w' hw => ⟨_, _, _, hb4.keep hw (by simp), by simp, by simp⟩) ?_
  refine C.loadAS_of (vs := [nv', rv]) (fun w' hw => ⟨_, _, _, hb4.keep hw (by simp), by simp, by simp⟩) ?_
  refine Holder_c (hG4.keep hf5) fun lv w6 hf6 hn6 ho6 => ⟨hf5.trans hf6, plain36_c (hG4.keep (hf5.trans hf6)) fun w7 hf7 hG7 => ⟨(hf5.trans hf6).trans hf7, refDist_c hG7 fun dv w8 hf8 hn8 ho8 => ?_⟩⟩
  have f8 := ((hf5.trans hf6).trans hf7).trans hf8
  have hl := (ho6.keep hf7 (by simp)).keep hf8 (by simp)
  refine ⟨f8, C.len_rd hl.rd (C.len_rd ho8.rd ?_)⟩
  rw [intC_len, intC_len, holderL_len, distL_len]
  have e : ¬ ((H.n : Int) ≠ (H.n : Int)) := by simp
  simp only [C.ite_true, C.ite_false, C.pick_true, C.pick_false, C.not_bool, C.field_ptr, C.nilCheck_ptr, C.add_mk, C.sub_mk, C.mul_mk, C.eql_mk, C.neq_mk, C.lss_mk, C.leq_mk, C.gtr_mk, C.geq_mk, C.conv_mk, C.len_mk, C.ext_0, C.ext_1, C.ext3_0, C.ext3_1, C.ext3_2, C.guarded_yes, C.guarded_tf, C.guarded_ft, C.guarded_undef, Bool.not_true, Bool.not_false, Nat.zero_add, eq_self, decide_true, decide_false, e]
  exact F7.k7.to (dh_loop ⟨hG4.keep f8, hb4.keep f8 (by simp), hl.rd, ho8.rd⟩ (fun w' hf' => h w' ((f04.trans f8).trans hf')) H.n 0 w8 (by omega) (Fr.refl _ _))
end
end Go.Proofs.YtfhgjncbhjjbfaaV
