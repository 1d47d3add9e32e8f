/- SccRings: the statement. -/
import Derived.Test.YtchonfdnghimdaaSc13
namespace Go.Proofs.YtchonfdnghimdaaV
open Go Go.Proofs Go.RowKit
set_option linter.unusedVariables false
set_option linter.unusedSimpArgs false
set_option maxRecDepth 10000
/-! ### 1. Plain -/
def Gr.backT (G : Gr) (k : Nat) (t : Int) : Bool := decide (t ≥ 0) && (decide (t < (G.n : Int)) && G.ld t.toNat k)
theorem back_ring {G : Gr} {k : Nat} : (G.row k).any (G.backT k) = G.ring k := by
  rw [Bool.eq_iff_iff, List.any_eq_true, ring_iff]
  simp only [Gr.backT, Gr.edge, Bool.and_eq_true, decide_eq_true_eq, List.contains_iff_mem]
  constructor
  · rintro ⟨t, ht, h0, _, h2⟩
    obtain ⟨m, rfl⟩ := Int.eq_ofNat_of_zero_le h0
    exact ⟨m, ht, h2⟩
  · rintro ⟨j, hj, h2⟩
    exact ⟨(j : Int), hj, by omega, by have := ld_start h2; omega, h2⟩
theorem same_is {G : Gr} {i j : Int} : G.same i j = true ↔ ∃ x y : Nat, i = x ∧ j = y ∧ G.eqv x y := by
  simp only [Gr.same, List.any_eq_true, Bool.and_eq_true, decide_eq_true_eq]
  constructor
  · rintro ⟨p, hp, h1, h2⟩
    obtain ⟨a, _, rfl⟩ := List.mem_map.1 hp
    obtain ⟨x, hx, rfl⟩ := List.mem_map.1 h1
    obtain ⟨y, hy, rfl⟩ := List.mem_map.1 h2
    exact ⟨x, y, rfl, rfl, eqv_trans (eqv_symm (scc_mem.1 hx)) (scc_mem.1 hy)⟩
  · rintro ⟨x, y, rfl, rfl, he⟩
    obtain ⟨k, t, _, hk, hl⟩ := scc_head (ld_node he.2)
    refine ⟨G.scc k, List.mem_map.2 ⟨k, List.mem_filter.2 ⟨List.mem_range.2 (ld_node hk.1), hl⟩, rfl⟩, ?_, ?_⟩
    · exact List.mem_map.2 ⟨x, scc_mem.2 (eqv_symm hk), rfl⟩
    · exact List.mem_map.2 ⟨y, scc_mem.2 (eqv_trans (eqv_symm hk) he), rfl⟩
theorem same_out {G : Gr} {i j : Int} (h : ¬ (i ≥ 0 ∧ j ≥ 0 ∧ i < (G.n : Int) ∧ j < (G.n : Int))) : G.same i j = false := by
  cases e : G.same i j with
  | false => rfl
  | true =>
    obtain ⟨x, y, rfl, rfl, he⟩ := same_is.1 e
    have := ld_node he.1
    have := ld_node he.2
    exact absurd ⟨by omega, by omega, by omega, by omega⟩ h
theorem same_in {G : Gr} {x y : Nat} : G.same (x : Int) (y : Int) = (G.ld x y && G.ld y x) := by
  rw [Bool.eq_iff_iff, same_is, Bool.and_eq_true]
  constructor
  · rintro ⟨a, b, h1, h2, he⟩
    have e1 : x = a := by omega
    have e2 : y = b := by omega
    subst e1 e2
    exact he
  · exact fun h => ⟨x, y, rfl, rfl, h⟩
theorem fromL_len' (G : Gr) (i : Nat) : (G.fromL i).length = G.n := by simp [Gr.fromL]
theorem fromL_get' {G : Gr} {i j : Nat} (h : j < (G.fromL i).length) : (G.fromL i)[j] = G.ld i j := by simp [Gr.fromL]
section
variable {K : VK} {w : World}
theorem beq4 (x y : Operand) (a b : Bool) : (do eqGuard .eql 4 x y (.bool a) (.bool b); binOp .eql 4 (.bool a) (.bool b) : Sem Value).run Try.prog w = .ok (.bool (a == b)) w := eq_bool x y a b Try.underlying4
theorem sr_back {G : Gr} {W : World} {nv rv iv jv ov : Value} {b1 k : Nat} (hG : IsG W nv rv G) (hb : GBlk W b1 25 nv rv) (hk : k < G.n)
    (h : ∀ w', Fr [] W w' → F4.k15 K iv jv (.pointer (some ⟨b1, 0, none⟩)) (.int .i64 (G.n : Int)) ov (.int .i64 (k : Int)) (.bool (G.ring k)) w') :
    ∀ (d e : Nat) (w : World), (G.row k).length = e + d → Fr [] W w → F4.l11 K iv jv (.pointer (some ⟨b1, 0, none⟩)) (.int .i64 (G.n : Int)) ov (.int .i64 (k : Int)) (.bool (((G.row k).take e).any (G.backT k))) (.int .i64 (e : Int)) w := by
  have hle := row_len hG k
  intro d
  induction d with
  | zero =>
    intro e w he hf
    refine F4.l11.to ((hb.keep hf (by simp)).row (hG.keep hf) hk fun v hv => C.len_rd hv ?_)
    rw [intC_len]
    simp only [C.ite_true, C.ite_false, C.pick_true, C.pick_false, C.not_bool, C.field_ptr, C.nilCheck_ptr, C.add_mk, C.sub_mk, C.mul_mk, C.eql_mk, C.neq_mk, C.lss_mk, C.leq_mk, C.gtr_mk, C.geq_mk, C.conv_mk, C.len_mk, C.ext_0, C.ext_1, C.ext3_0, C.ext3_1, C.ext3_2, C.guarded_yes, C.guarded_tf, C.guarded_ft, C.guarded_undef, Bool.not_true, Bool.not_false, Nat.zero_add, eq_self, decide_true, decide_false, show ¬ ((e : Int) < ((G.row k).length : Int)) by omega]
    rw [List.take_of_length_le (by omega), back_ring]
    exact h w hf
  | succ d ih =>
    intro e w he hf
    have el : e < (G.row k).length := by omega
    refine F4.l11.to ((hb.keep hf (by simp)).row (hG.keep hf) hk fun v hv => C.len_rd hv ?_)
    rw [intC_len]
    simp only [C.ite_true, C.ite_false, C.pick_true, C.pick_false, C.not_bool, C.field_ptr, C.nilCheck_ptr, C.add_mk, C.sub_mk, C.mul_mk, C.eql_mk, C.neq_mk, C.lss_mk, C.leq_mk, C.gtr_mk, C.geq_mk, C.conv_mk, C.len_mk, C.ext_0, C.ext_1, C.ext3_0, C.ext3_1, C.ext3_2, C.guarded_yes, C.guarded_tf, C.guarded_ft, C.guarded_undef, Bool.not_true, Bool.not_false, Nat.zero_add, eq_self, decide_true, decide_false, show ((e : Int) < ((G.row k).length : Int)) by omega]
    have et : ((G.row k).take (e + 1)).any (G.backT k) = (((G.row k).take e).any (G.backT k) || G.backT k (G.row k)[e]) := by
      rw [List.take_succ_eq_append_getElem el, List.any_append]
      simp only [List.any_cons, List.any_nil, Bool.or_false]
    have nx : ∀ w' (b : Bool), Fr [] W w' → b = ((G.row k).take (e + 1)).any (G.backT k) → F4.k12 K iv jv (.pointer (some ⟨b1, 0, none⟩)) (.int .i64 (G.n : Int)) ov (.int .i64 (k : Int)) (.bool b) (.int .i64 (e : Int)) w' := fun w' b a c => by
      subst c
      refine F4.k12.to ?_
      simp only [C.ite_true, C.ite_false, C.pick_true, C.pick_false, C.not_bool, C.field_ptr, C.nilCheck_ptr, C.add_mk, C.sub_mk, C.mul_mk, C.eql_mk, C.neq_mk, C.lss_mk, C.leq_mk, C.gtr_mk, C.geq_mk, C.conv_mk, C.len_mk, C.ext_0, C.ext_1, C.ext3_0, C.ext3_1, C.ext3_2, C.guarded_yes, C.guarded_tf, C.guarded_ft, C.guarded_undef, Bool.not_true, Bool.not_false, Nat.zero_add, eq_self, decide_true, decide_false]
      rw [wrap64_id (n := (e : Int) + 1) (by omega), show (e : Int) + 1 = ((e + 1 : Nat) : Int) by omega]
      exact ih (e + 1) w' (by omega) a
    refine F4.k13.to ((hb.keep hf (by simp)).row (hG.keep hf) hk fun v hv => C.idx_int hv el fun g o cs ee fz hg hc => C.load1_of hg hc ?_)
    rw [et] at nx
    generalize (G.row k)[e] = t at nx ⊢
    generalize ((G.row k).take e).any (G.backT k) = bk at nx ⊢
    cases bk with
    | true =>
      simp only [C.ite_true, C.ite_false, C.pick_true, C.pick_false, C.not_bool, C.field_ptr, C.nilCheck_ptr, C.add_mk, C.sub_mk, C.mul_mk, C.eql_mk, C.neq_mk, C.lss_mk, C.leq_mk, C.gtr_mk, C.geq_mk, C.conv_mk, C.len_mk, C.ext_0, C.ext_1, C.ext3_0, C.ext3_1, C.ext3_2, C.guarded_yes, C.guarded_tf, C.guarded_ft, C.guarded_undef, Bool.not_true, Bool.not_false, Nat.zero_add, eq_self, decide_true, decide_false]
      exact nx w true hf rfl
    | false =>
      simp only [Bool.false_or] at nx
      by_cases c1 : t ≥ 0
      · simp only [C.ite_true, C.ite_false, C.pick_true, C.pick_false, C.not_bool, C.field_ptr, C.nilCheck_ptr, C.add_mk, C.sub_mk, C.mul_mk, C.eql_mk, C.neq_mk, C.lss_mk, C.leq_mk, C.gtr_mk, C.geq_mk, C.conv_mk, C.len_mk, C.ext_0, C.ext_1, C.ext3_0, C.ext3_1, C.ext3_2, C.guarded_yes, C.guarded_tf, C.guarded_ft, C.guarded_undef, Bool.not_true, Bool.not_false, Nat.zero_add, eq_self, decide_true, decide_false, c1]
        by_cases c2 : t < (G.n : Int)
        · simp only [C.ite_true, C.ite_false, C.pick_true, C.pick_false, C.not_bool, C.field_ptr, C.nilCheck_ptr, C.add_mk, C.sub_mk, C.mul_mk, C.eql_mk, C.neq_mk, C.lss_mk, C.leq_mk, C.gtr_mk, C.geq_mk, C.conv_mk, C.len_mk, C.ext_0, C.ext_1, C.ext3_0, C.ext3_1, C.ext3_2, C.guarded_yes, C.guarded_tf, C.guarded_ft, C.guarded_undef, Bool.not_true, Bool.not_false, Nat.zero_add, eq_self, decide_true, decide_false, c2]
          obtain ⟨m, rfl⟩ := Int.eq_ofNat_of_zero_le c1
          refine (hb.keep hf (by simp)).all (plain34_c (hG.keep hf) fun w1 hf1 => From_c (hG.keep (hf.trans hf1)) fun f2 w2 hf2 hn2 ho2 => ?_)
          have kf : k < (G.fromL m).length := by rw [fromL_len']; exact hk
          refine C.idx_bool ho2.rd kf ?_
          rw [fromL_get']
          try simp only [C.ite_true, C.ite_false, C.pick_true, C.pick_false, C.not_bool, C.field_ptr, C.nilCheck_ptr, C.add_mk, C.sub_mk, C.mul_mk, C.eql_mk, C.neq_mk, C.lss_mk, C.leq_mk, C.gtr_mk, C.geq_mk, C.conv_mk, C.len_mk, C.ext_0, C.ext_1, C.ext3_0, C.ext3_1, C.ext3_2, C.guarded_yes, C.guarded_tf, C.guarded_ft, C.guarded_undef, Bool.not_true, Bool.not_false, Nat.zero_add, eq_self, decide_true, decide_false]
          exact nx w2 _ (hf.trans (hf1.trans hf2)) (by simp [Gr.backT, c2])
        · simp only [C.ite_true, C.ite_false, C.pick_true, C.pick_false, C.not_bool, C.field_ptr, C.nilCheck_ptr, C.add_mk, C.sub_mk, C.mul_mk, C.eql_mk, C.neq_mk, C.lss_mk, C.leq_mk, C.gtr_mk, C.geq_mk, C.conv_mk, C.len_mk, C.ext_0, C.ext_1, C.ext3_0, C.ext3_1, C.ext3_2, C.guarded_yes, C.guarded_tf, C.guarded_ft, C.guarded_undef, Bool.not_true, Bool.not_false, Nat.zero_add, eq_self, decide_true, decide_false, c2]
          exact nx w false hf (by simp [Gr.backT, c2])
      · simp only [C.ite_true, C.ite_false, C.pick_true, C.pick_false, C.not_bool, C.field_ptr, C.nilCheck_ptr, C.add_mk, C.sub_mk, C.mul_mk, C.eql_mk, C.neq_mk, C.lss_mk, C.leq_mk, C.gtr_mk, C.geq_mk, C.conv_mk, C.len_mk, C.ext_0, C.ext_1, C.ext3_0, C.ext3_1, C.ext3_2, C.guarded_yes, C.guarded_tf, C.guarded_ft, C.guarded_undef, Bool.not_true, Bool.not_false, Nat.zero_add, eq_self, decide_true, decide_false, c1]
        exact nx w false hf (by simp [Gr.backT, c1])
theorem sr_out {G : Gr} {W : World} {nv rv iv jv : Value} {b1 : Nat} (hG : IsG W nv rv G) (hb : GBlk W b1 25 nv rv)
    (h : ∀ ov w', Fr [] W w' → RdS w' ov 1 (intC (natI G.ringL)) → F4.k17 K iv jv (.pointer (some ⟨b1, 0, none⟩)) (.int .i64 (G.n : Int)) ov w') :
    ∀ (d k : Nat) (w : World) (ov : Value), G.n = k + d → Fr [] W w → NewS W ov → OwnS w ov 3 1 (intC (natI ((List.range k).filter G.ring))) → F4.l7 K iv jv (.pointer (some ⟨b1, 0, none⟩)) (.int .i64 (G.n : Int)) ov (.int .i64 (k : Int)) w := by
  have hfew := hG.few
  intro d
  induction d with
  | zero =>
    intro k w ov hk hf hn ho
    refine F4.l7.to ?_
    simp only [C.ite_true, C.ite_false, C.pick_true, C.pick_false, C.not_bool, C.field_ptr, C.nilCheck_ptr, C.add_mk, C.sub_mk, C.mul_mk, C.eql_mk, C.neq_mk, C.lss_mk, C.leq_mk, C.gtr_mk, C.geq_mk, C.conv_mk, C.len_mk, C.ext_0, C.ext_1, C.ext3_0, C.ext3_1, C.ext3_2, C.guarded_yes, C.guarded_tf, C.guarded_ft, C.guarded_undef, Bool.not_true, Bool.not_false, Nat.zero_add, eq_self, decide_true, decide_false, show ¬ ((k : Int) < (G.n : Int)) by omega]
    have e : k = G.n := by omega
    subst e
    exact h ov w hf ho.rd
  | succ d ih =>
    intro k w ov hk hf hn ho
    have kl : k < G.n := by omega
    refine F4.l7.to ?_
    simp only [C.ite_true, C.ite_false, C.pick_true, C.pick_false, C.not_bool, C.field_ptr, C.nilCheck_ptr, C.add_mk, C.sub_mk, C.mul_mk, C.eql_mk, C.neq_mk, C.lss_mk, C.leq_mk, C.gtr_mk, C.geq_mk, C.conv_mk, C.len_mk, C.ext_0, C.ext_1, C.ext3_0, C.ext3_1, C.ext3_2, C.guarded_yes, C.guarded_tf, C.guarded_ft, C.guarded_undef, Bool.not_true, Bool.not_false, Nat.zero_add, eq_self, decide_true, decide_false, show ((k : Int) < (G.n : Int)) by omega]
    refine F4.k9.to (sr_back (W := w) (hG.keep hf) (hb.keep hf (by simp)) kl (fun w1 hf1 => ?_) (G.row k).length 0 w (by omega) (Fr.refl _ _))
    have f1 := hf.trans hf1
    have ho1 := ho.keep hf1 (by simp)
    have er : (List.range (k + 1)).filter G.ring = (List.range k).filter G.ring ++ if G.ring k = true then [k] else [] := by
      rw [List.range_succ, List.filter_append]
      congr 1
      cases h : G.ring k <;> simp [h]
    have hfl : ((List.range k).filter G.ring).length ≤ k := by
      have := List.length_filter_le G.ring (List.range k)
      rwa [List.length_range] at this
    have nx : ∀ ov' w', Fr [] W w' → NewS W ov' → OwnS w' ov' 3 1 (intC (natI ((List.range (k + 1)).filter G.ring))) → F4.k8 K iv jv (.pointer (some ⟨b1, 0, none⟩)) (.int .i64 (G.n : Int)) ov' (.int .i64 (k : Int)) w' := fun ov' w' a b c => by
      refine F4.k8.to ?_
      simp only [C.ite_true, C.ite_false, C.pick_true, C.pick_false, C.not_bool, C.field_ptr, C.nilCheck_ptr, C.add_mk, C.sub_mk, C.mul_mk, C.eql_mk, C.neq_mk, C.lss_mk, C.leq_mk, C.gtr_mk, C.geq_mk, C.conv_mk, C.len_mk, C.ext_0, C.ext_1, C.ext3_0, C.ext3_1, C.ext3_2, C.guarded_yes, C.guarded_tf, C.guarded_ft, C.guarded_undef, Bool.not_true, Bool.not_false, Nat.zero_add, eq_self, decide_true, decide_false]
      rw [wrap64_id (n := (k : Int) + 1) (by omega), show (k : Int) + 1 = ((k + 1 : Nat) : Int) by omega]
      exact ih (k + 1) w' ov' (by omega) a b c
    refine F4.k15.to ?_
    cases c : G.ring k with
    | false =>
      simp only [C.ite_true, C.ite_false, C.pick_true, C.pick_false, C.not_bool, C.field_ptr, C.nilCheck_ptr, C.add_mk, C.sub_mk, C.mul_mk, C.eql_mk, C.neq_mk, C.lss_mk, C.leq_mk, C.gtr_mk, C.geq_mk, C.conv_mk, C.len_mk, C.ext_0, C.ext_1, C.ext3_0, C.ext3_1, C.ext3_2, C.guarded_yes, C.guarded_tf, C.guarded_ft, C.guarded_undef, Bool.not_true, Bool.not_false, Nat.zero_add, eq_self, decide_true, decide_false]
      exact nx ov w1 f1 hn (by rw [er, c]; simpa using ho1)
    | true =>
      simp only [C.ite_true, C.ite_false, C.pick_true, C.pick_false, C.not_bool, C.field_ptr, C.nilCheck_ptr, C.add_mk, C.sub_mk, C.mul_mk, C.eql_mk, C.neq_mk, C.lss_mk, C.leq_mk, C.gtr_mk, C.geq_mk, C.conv_mk, C.len_mk, C.ext_0, C.ext_1, C.ext3_0, C.ext3_1, C.ext3_2, C.guarded_yes, C.guarded_tf, C.guarded_ft, C.guarded_undef, Bool.not_true, Bool.not_false, Nat.zero_add, eq_self, decide_true, decide_false]
      refine C.appI f1 hn ho1 (by rw [natI_len]; omega) fun ov' w2 f2 n2 o2 _ _ => nx ov' w2 f2 n2 ?_
      rw [er, c, if_pos rfl, natI_app]
      exact o2
theorem sr_end {G : Gr} {nv rv ov : Value} {i j : Int} {b1 : Nat} (hG : IsG w nv rv G) (hb : GBlk w b1 25 nv rv) (ho : RdS w ov 1 (intC (natI G.ringL)))
    (h : ∀ w', Fr [] w w' → K (.bool true) w') : F4.k20 K (.int .i64 i) (.int .i64 j) (.pointer (some ⟨b1, 0, none⟩)) ov (.bool (G.same i j)) w := by
  refine F4.k20.to (hb.all (Rings_c hG fun rg w1 hf1 _ ho1 => Ints_c ho1.rd (ho.keep hf1) fun w2 hf2 => ?_))
  have f2 := hf1.trans hf2
  rw [decide_eq_true rfl]
  simp only [C.ite_true, C.ite_false, C.pick_true, C.pick_false, C.not_bool, C.field_ptr, C.nilCheck_ptr, C.add_mk, C.sub_mk, C.mul_mk, C.eql_mk, C.neq_mk, C.lss_mk, C.leq_mk, C.gtr_mk, C.geq_mk, C.conv_mk, C.len_mk, C.ext_0, C.ext_1, C.ext3_0, C.ext3_1, C.ext3_2, C.guarded_yes, C.guarded_tf, C.guarded_ft, C.guarded_undef, Bool.not_true, Bool.not_false, Nat.zero_add, eq_self, decide_true, decide_false]
  refine (hb.keep f2 (by simp)).all (Same_c (hG.keep f2) fun w3 hf3 => ?_)
  try simp only [C.ite_true, C.ite_false, C.pick_true, C.pick_false, C.not_bool, C.field_ptr, C.nilCheck_ptr, C.add_mk, C.sub_mk, C.mul_mk, C.eql_mk, C.neq_mk, C.lss_mk, C.leq_mk, C.gtr_mk, C.geq_mk, C.conv_mk, C.len_mk, C.ext_0, C.ext_1, C.ext3_0, C.ext3_1, C.ext3_2, C.guarded_yes, C.guarded_tf, C.guarded_ft, C.guarded_undef, Bool.not_true, Bool.not_false, Nat.zero_add, eq_self, decide_true, decide_false]
  refine ⟨_, beq4 _ _ _ _, ?_⟩
  rw [show (G.same i j == G.same i j) = true by simp]
  simp only [C.ite_true, C.ite_false, C.pick_true, C.pick_false, C.not_bool, C.field_ptr, C.nilCheck_ptr, C.add_mk, C.sub_mk, C.mul_mk, C.eql_mk, C.neq_mk, C.lss_mk, C.leq_mk, C.gtr_mk, C.geq_mk, C.conv_mk, C.len_mk, C.ext_0, C.ext_1, C.ext3_0, C.ext3_1, C.ext3_2, C.guarded_yes, C.guarded_tf, C.guarded_ft, C.guarded_undef, Bool.not_true, Bool.not_false, Nat.zero_add, eq_self, decide_true, decide_false]
  exact h w3 (f2.trans hf3)
theorem sr_same {G : Gr} {nv rv ov : Value} {i j : Int} {b1 : Nat} (hG : IsG w nv rv G) (hb : GBlk w b1 25 nv rv) (ho : RdS w ov 1 (intC (natI G.ringL)))
    (h : ∀ w', Fr [] w w' → K (.bool true) w') : F4.k17 K (.int .i64 i) (.int .i64 j) (.pointer (some ⟨b1, 0, none⟩)) (.int .i64 (G.n : Int)) ov w := by
  refine F4.k17.to ?_
  have fin : ∀ w', Fr [] w w' → F4.k20 K (.int .i64 i) (.int .i64 j) (.pointer (some ⟨b1, 0, none⟩)) ov (.bool (G.same i j)) w' := fun w' hf => sr_end (hG.keep hf) (hb.keep hf (by simp)) (ho.keep hf) fun w2 hf2 => h w2 (hf.trans hf2)
  have out : ¬ (i ≥ 0 ∧ j ≥ 0 ∧ i < (G.n : Int) ∧ j < (G.n : Int)) → F4.k20 K (.int .i64 i) (.int .i64 j) (.pointer (some ⟨b1, 0, none⟩)) ov (.bool false) w := fun hc => by
    have := fin w (Fr.refl _ _)
    rwa [same_out hc] at this
  by_cases c1 : i ≥ 0
  · by_cases c2 : j ≥ 0
    · by_cases c3 : i < (G.n : Int)
      · by_cases c4 : j < (G.n : Int)
        · simp only [C.ite_true, C.ite_false, C.pick_true, C.pick_false, C.not_bool, C.field_ptr, C.nilCheck_ptr, C.add_mk, C.sub_mk, C.mul_mk, C.eql_mk, C.neq_mk, C.lss_mk, C.leq_mk, C.gtr_mk, C.geq_mk, C.conv_mk, C.len_mk, C.ext_0, C.ext_1, C.ext3_0, C.ext3_1, C.ext3_2, C.guarded_yes, C.guarded_tf, C.guarded_ft, C.guarded_undef, Bool.not_true, Bool.not_false, Nat.zero_add, eq_self, decide_true, decide_false, c1, c2, c3, c4]
          obtain ⟨x, rfl⟩ := Int.eq_ofNat_of_zero_le c1
          obtain ⟨y, rfl⟩ := Int.eq_ofNat_of_zero_le c2
          refine hb.all (plain34_c hG fun w1 hf1 => From_c (hG.keep hf1) fun f2 w2 hf2 hn2 ho2 => ?_)
          have f12 := hf1.trans hf2
          have yl : y < (G.fromL x).length := by rw [fromL_len']; omega
          refine C.idx_bool ho2.rd yl ?_
          rw [fromL_get']
          have es : G.same (x : Int) (y : Int) = (G.ld x y && G.ld y x) := same_in
          rw [es] at fin
          cases d1 : G.ld x y with
          | false =>
            simp only [C.ite_true, C.ite_false, C.pick_true, C.pick_false, C.not_bool, C.field_ptr, C.nilCheck_ptr, C.add_mk, C.sub_mk, C.mul_mk, C.eql_mk, C.neq_mk, C.lss_mk, C.leq_mk, C.gtr_mk, C.geq_mk, C.conv_mk, C.len_mk, C.ext_0, C.ext_1, C.ext3_0, C.ext3_1, C.ext3_2, C.guarded_yes, C.guarded_tf, C.guarded_ft, C.guarded_undef, Bool.not_true, Bool.not_false, Nat.zero_add, eq_self, decide_true, decide_false]
            have := fin w2 f12
            rwa [d1] at this
          | true =>
            simp only [C.ite_true, C.ite_false, C.pick_true, C.pick_false, C.not_bool, C.field_ptr, C.nilCheck_ptr, C.add_mk, C.sub_mk, C.mul_mk, C.eql_mk, C.neq_mk, C.lss_mk, C.leq_mk, C.gtr_mk, C.geq_mk, C.conv_mk, C.len_mk, C.ext_0, C.ext_1, C.ext3_0, C.ext3_1, C.ext3_2, C.guarded_yes, C.guarded_tf, C.guarded_ft, C.guarded_undef, Bool.not_true, Bool.not_false, Nat.zero_add, eq_self, decide_true, decide_false]
            refine (hb.keep f12 (by simp)).all (plain34_c (hG.keep f12) fun w3 hf3 => From_c (hG.keep (f12.trans hf3)) fun f4 w4 hf4 hn4 ho4 => ?_)
            have xl : x < (G.fromL y).length := by rw [fromL_len']; omega
            refine C.idx_bool ho4.rd xl ?_
            rw [fromL_get']
            try simp only [C.ite_true, C.ite_false, C.pick_true, C.pick_false, C.not_bool, C.field_ptr, C.nilCheck_ptr, C.add_mk, C.sub_mk, C.mul_mk, C.eql_mk, C.neq_mk, C.lss_mk, C.leq_mk, C.gtr_mk, C.geq_mk, C.conv_mk, C.len_mk, C.ext_0, C.ext_1, C.ext3_0, C.ext3_1, C.ext3_2, C.guarded_yes, C.guarded_tf, C.guarded_ft, C.guarded_undef, Bool.not_true, Bool.not_false, Nat.zero_add, eq_self, decide_true, decide_false]
            have := fin w4 (f12.trans (hf3.trans hf4))
            rwa [d1, Bool.true_and] at this
        · simp only [C.ite_true, C.ite_false, C.pick_true, C.pick_false, C.not_bool, C.field_ptr, C.nilCheck_ptr, C.add_mk, C.sub_mk, C.mul_mk, C.eql_mk, C.neq_mk, C.lss_mk, C.leq_mk, C.gtr_mk, C.geq_mk, C.conv_mk, C.len_mk, C.ext_0, C.ext_1, C.ext3_0, C.ext3_1, C.ext3_2, C.guarded_yes, C.guarded_tf, C.guarded_ft, C.guarded_undef, Bool.not_true, Bool.not_false, Nat.zero_add, eq_self, decide_true, decide_false, c1, c2, c3, c4]
          exact out (by omega)
      · simp only [C.ite_true, C.ite_false, C.pick_true, C.pick_false, C.not_bool, C.field_ptr, C.nilCheck_ptr, C.add_mk, C.sub_mk, C.mul_mk, C.eql_mk, C.neq_mk, C.lss_mk, C.leq_mk, C.gtr_mk, C.geq_mk, C.conv_mk, C.len_mk, C.ext_0, C.ext_1, C.ext3_0, C.ext3_1, C.ext3_2, C.guarded_yes, C.guarded_tf, C.guarded_ft, C.guarded_undef, Bool.not_true, Bool.not_false, Nat.zero_add, eq_self, decide_true, decide_false, c1, c2, c3]
        exact out (by omega)
    · simp only [C.ite_true, C.ite_false, C.pick_true, C.pick_false, C.not_bool, C.field_ptr, C.nilCheck_ptr, C.add_mk, C.sub_mk, C.mul_mk, C.eql_mk, C.neq_mk, C.lss_mk, C.leq_mk, C.gtr_mk, C.geq_mk, C.conv_mk, C.len_mk, C.ext_0, C.ext_1, C.ext3_0, C.ext3_1, C.ext3_2, C.guarded_yes, C.guarded_tf, C.guarded_ft, C.guarded_undef, Bool.not_true, Bool.not_false, Nat.zero_add, eq_self, decide_true, decide_false, c1, c2]
      exact out (by omega)
  · simp only [C.ite_true, C.ite_false, C.pick_true, C.pick_false, C.not_bool, C.field_ptr, C.nilCheck_ptr, C.add_mk, C.sub_mk, C.mul_mk, C.eql_mk, C.neq_mk, C.lss_mk, C.leq_mk, C.gtr_mk, C.geq_mk, C.conv_mk, C.len_mk, C.ext_0, C.ext_1, C.ext3_0, C.ext3_1, C.ext3_2, C.guarded_yes, C.guarded_tf, C.guarded_ft, C.guarded_undef, Bool.not_true, Bool.not_false, Nat.zero_add, eq_self, decide_true, decide_false, c1]
    exact out (by omega)
theorem SccRings_c {nv rv : Value} {G : Gr} {i j : Int} (hG : IsG0 w nv rv G) (h : ∀ w', Fr [] w w' → K (.bool true) w') : C.call Try.prog 4 #[.agg #[nv, rv], .int .i64 i, .int .i64 j] w K := by
  refine F4.sh (GBlk.new0 hG fun b w1 hf1 hb1 hb hG1 => alive34_c fun w2 hf2 => ?_)
  simp only [C.ite_true, C.ite_false, C.pick_true, C.pick_false, C.not_bool, C.field_ptr, C.nilCheck_ptr, C.add_mk, C.sub_mk, C.mul_mk, C.eql_mk, C.neq_mk, C.lss_mk, C.leq_mk, C.gtr_mk, C.geq_mk, C.conv_mk, C.len_mk, C.ext_0, C.ext_1, C.ext3_0, C.ext3_1, C.ext3_2, C.guarded_yes, C.guarded_tf, C.guarded_ft, C.guarded_undef, Bool.not_true, Bool.not_false, Nat.zero_add, eq_self, decide_true, decide_false]
  refine F4.k3.to ((hb.keep hf2 (by simp)).all (few34_c hG (hf1.trans hf2) fun nv' w3 hf3 hG3 => GBlk.set (hb.keep (hf2.trans hf3) (by simp)) (hG3.keep ((hf1.trans hf2).trans hf3)) fun w4 hu => ?_))
  have f04 : Fr [] w w4 := ((hf1.trans hf2).trans hf3).then hu.fr fun x hx => .inr (by simp only [List.mem_singleton] at hx; omega)
  have hG4 := hG3.keep f04
  have hb4 : GBlk w4 b 25 nv' rv := hu.at_
  generalize G.cut 16 = H at *
  refine hb4.next (hG4.len_next ?_)
  exact sr_out (W := w4) hG4 hb4 (fun ov w5 hf5 ho5 => sr_same (hG4.keep hf5) (hb4.keep hf5 (by simp)) ho5 fun w6 hf6 => h w6 (f04.trans (hf5.trans hf6))) H.n 0 w4 (.slice none 0 0) (by omega) (Fr.refl _ _) (NewS.nil _) (OwnS.nil _ _ _)
end
end Go.Proofs.YtchonfdnghimdaaV
