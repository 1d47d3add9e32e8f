/- SccOrders: the statement. -/
import Derived.Test.YtchonfdnghimdaaSc13
namespace Go.Proofs.YtchonfdnghimdaaV
open Go Go.Proofs Go.RowKit
set_option linter.unusedVariables false
set_option linter.unusedSimpArgs false
set_option maxRecDepth 10000
/-! ### 1. Plain: each that comes is the least free -/
theorem topoF_pre {G : Gr} : ∀ (f : Nat) (D : List Nat), ∃ T, topoF G f D = D ++ T := by
  intro f
  induction f with
  | zero => exact fun D => ⟨[], by simp [topoF]⟩
  | succ f ih =>
    intro D
    cases e : G.nxt D with
    | none => exact ⟨[], by simp [topoF, e]⟩
    | some i =>
      obtain ⟨T, hT⟩ := ih (D ++ [i])
      exact ⟨i :: T, by simp [topoF, e, hT]⟩
theorem topoF_at {G : Gr} : ∀ (f : Nat) (D : List Nat) (a : Nat), D.length ≤ a → (h : a < (topoF G f D).length) → G.nxt ((topoF G f D).take a) = some (topoF G f D)[a] := by
  intro f
  induction f with
  | zero => intro D a h1 h2; simp [topoF] at h2; omega
  | succ f ih =>
    intro D a h1 h2
    cases e : G.nxt D with
    | none => simp [topoF, e] at h2; omega
    | some i =>
      have et : topoF G (f + 1) D = topoF G f (D ++ [i]) := by simp [topoF, e]
      simp only [et] at h2 ⊢
      by_cases c : a = D.length
      · subst c
        obtain ⟨T, hT⟩ := topoF_pre (G := G) f (D ++ [i])
        simp only [hT] at h2 ⊢
        simp [e]
      · exact ih (D ++ [i]) a (by simp; omega) h2
theorem topo_at {G : Gr} {a : Nat} (h : a < G.topo.length) : G.nxt (G.topo.take a) = some G.topo[a] := topoF_at G.n [] a (by simp) h
def Gr.freeU (G : Gr) (D : List Nat) (i k : Nat) : Bool := decide (i ∉ D) && (List.range k).all fun x => decide (x ∈ D) || !G.edge x i
theorem freeU_succ {G : Gr} {D : List Nat} {i k : Nat} : G.freeU D i (k + 1) = (G.freeU D i k && (decide (k ∈ D) || !G.edge k i)) := by
  simp [Gr.freeU, List.range_succ, Bool.and_assoc]
def FI (G : Gr) (D : List Nat) (i : Nat) (f : Int) : Prop := (f = -1 ∧ ∀ k, i ≤ k → k < G.n → G.free D k = false) ∨ ∃ m : Nat, f = m ∧ i ≤ m ∧ m < G.n ∧ G.free D m = true ∧ ∀ k, i ≤ k → k < m → G.free D k = false
theorem FI.yes {G : Gr} {D : List Nat} {i : Nat} (hi : i < G.n) (h : G.free D i = true) : FI G D i (i : Int) := .inr ⟨i, rfl, Nat.le_refl _, hi, h, fun k a b => by omega⟩
theorem FI.no {G : Gr} {D : List Nat} {i : Nat} {f : Int} (h : FI G D (i + 1) f) (hn : G.free D i = false) : FI G D i f := by
  rcases h with ⟨e, h⟩ | ⟨m, e, h1, h2, h3, h4⟩
  · refine .inl ⟨e, fun k a b => ?_⟩
    by_cases c : k = i
    · rw [c]; exact hn
    · exact h k (by omega) b
  · refine .inr ⟨m, e, by omega, h2, h3, fun k a b => ?_⟩
    by_cases c : k = i
    · rw [c]; exact hn
    · exact h4 k (by omega) b
theorem FI.is {G : Gr} {D : List Nat} {f : Int} {j : Nat} (h : FI G D 0 f) (hj : G.nxt D = some j) : f = (j : Int) := by
  obtain ⟨h1, h2⟩ := nxt_some hj
  rcases h with ⟨e, h⟩ | ⟨m, e, _, a, b, c⟩
  · rw [h j (by omega) h1] at h2; cases h2
  · have := nxt_of a b fun k hk => c k (by omega) hk
    rw [hj] at this
    cases this
    exact e
theorem edge_dec {G : Gr} {i k : Nat} : decide ((i : Int) ∈ G.row k) = G.edge k i := by simp [Gr.edge]
section
variable {K : VK} {w : World}
theorem so_free {G : Gr} {W : World} {nv rv dv ov av fv : Value} {b1 i : Nat} {D : List Nat} (hG : IsG W nv rv G) (hb : GBlk W b1 25 nv rv) (hd : RdS W dv 1 (boolC (metL G.n D)))
    (h : ∀ w', Fr [] W w' → F5.k20 K (.pointer (some ⟨b1, 0, none⟩)) (.int .i64 (G.n : Int)) ov dv av fv (.int .i64 (i : Int)) (.bool (G.free D i)) w') :
    ∀ (d k : Nat) (w : World), G.n = k + d → Fr [] W w → F5.l17 K (.pointer (some ⟨b1, 0, none⟩)) (.int .i64 (G.n : Int)) ov dv av fv (.int .i64 (i : Int)) (.bool (G.freeU D i k)) (.int .i64 (k : Int)) w := by
  have hfew := hG.few
  intro d
  induction d with
  | zero =>
    intro k w hk hf
    refine F5.l17.to ?_
    simp only [C.ite_true, C.ite_false, C.pick_true, C.pick_false, C.not_bool, C.field_ptr, C.nilCheck_ptr, C.add_mk, C.sub_mk, C.mul_mk, C.eql_mk, C.neq_mk, C.lss_mk, C.leq_mk, C.gtr_mk, C.geq_mk, C.conv_mk, C.len_mk, C.ext_0, C.ext_1, C.ext3_0, C.ext3_1, C.ext3_2, C.guarded_yes, C.guarded_tf, C.guarded_ft, C.guarded_undef, Bool.not_true, Bool.not_false, Nat.zero_add, eq_self, decide_true, decide_false, show ¬ ((k : Int) < (G.n : Int)) by omega]
    have e : k = G.n := by omega
    subst e
    exact h w hf
  | succ d ih =>
    intro k w hk hf
    have kl : k < G.n := by omega
    refine F5.l17.to ?_
    simp only [C.ite_true, C.ite_false, C.pick_true, C.pick_false, C.not_bool, C.field_ptr, C.nilCheck_ptr, C.add_mk, C.sub_mk, C.mul_mk, C.eql_mk, C.neq_mk, C.lss_mk, C.leq_mk, C.gtr_mk, C.geq_mk, C.conv_mk, C.len_mk, C.ext_0, C.ext_1, C.ext3_0, C.ext3_1, C.ext3_2, C.guarded_yes, C.guarded_tf, C.guarded_ft, C.guarded_undef, Bool.not_true, Bool.not_false, Nat.zero_add, eq_self, decide_true, decide_false, show ((k : Int) < (G.n : Int)) by omega]
    have nx : ∀ w' (b : Bool), Fr [] W w' → b = G.freeU D i (k + 1) → F5.k18 K (.pointer (some ⟨b1, 0, none⟩)) (.int .i64 (G.n : Int)) ov dv av fv (.int .i64 (i : Int)) (.bool b) (.int .i64 (k : Int)) w' := fun w' b a e => by
      subst e
      refine F5.k18.to ?_
      simp only [C.ite_true, C.ite_false, C.pick_true, C.pick_false, C.not_bool, C.field_ptr, C.nilCheck_ptr, C.add_mk, C.sub_mk, C.mul_mk, C.eql_mk, C.neq_mk, C.lss_mk, C.leq_mk, C.gtr_mk, C.geq_mk, C.conv_mk, C.len_mk, C.ext_0, C.ext_1, C.ext3_0, C.ext3_1, C.ext3_2, C.guarded_yes, C.guarded_tf, C.guarded_ft, C.guarded_undef, Bool.not_true, Bool.not_false, Nat.zero_add, eq_self, decide_true, decide_false]
      rw [wrap64_id (n := (k : Int) + 1) (by omega), show (k : Int) + 1 = ((k + 1 : Nat) : Int) by omega]
      exact ih (k + 1) w' (by omega) a
    refine F5.k19.to ?_
    cases c : G.freeU D i k with
    | false =>
      simp only [C.ite_true, C.ite_false, C.pick_true, C.pick_false, C.not_bool, C.field_ptr, C.nilCheck_ptr, C.add_mk, C.sub_mk, C.mul_mk, C.eql_mk, C.neq_mk, C.lss_mk, C.leq_mk, C.gtr_mk, C.geq_mk, C.conv_mk, C.len_mk, C.ext_0, C.ext_1, C.ext3_0, C.ext3_1, C.ext3_2, C.guarded_yes, C.guarded_tf, C.guarded_ft, C.guarded_undef, Bool.not_true, Bool.not_false, Nat.zero_add, eq_self, decide_true, decide_false]
      exact nx w false hf (by rw [freeU_succ, c]; rfl)
    | true =>
      simp only [C.ite_true, C.ite_false, C.pick_true, C.pick_false, C.not_bool, C.field_ptr, C.nilCheck_ptr, C.add_mk, C.sub_mk, C.mul_mk, C.eql_mk, C.neq_mk, C.lss_mk, C.leq_mk, C.gtr_mk, C.geq_mk, C.conv_mk, C.len_mk, C.ext_0, C.ext_1, C.ext3_0, C.ext3_1, C.ext3_2, C.guarded_yes, C.guarded_tf, C.guarded_ft, C.guarded_undef, Bool.not_true, Bool.not_false, Nat.zero_add, eq_self, decide_true, decide_false]
      refine C.idx_bool (hd.keep hf) (by rw [metL_len]; exact kl) ?_
      rw [metL_get]
      by_cases hm : k ∈ D
      · simp only [C.ite_true, C.ite_false, C.pick_true, C.pick_false, C.not_bool, C.field_ptr, C.nilCheck_ptr, C.add_mk, C.sub_mk, C.mul_mk, C.eql_mk, C.neq_mk, C.lss_mk, C.leq_mk, C.gtr_mk, C.geq_mk, C.conv_mk, C.len_mk, C.ext_0, C.ext_1, C.ext3_0, C.ext3_1, C.ext3_2, C.guarded_yes, C.guarded_tf, C.guarded_ft, C.guarded_undef, Bool.not_true, Bool.not_false, Nat.zero_add, eq_self, decide_true, decide_false, hm]
        exact nx w true hf (by rw [freeU_succ, c]; simp [hm])
      · simp only [C.ite_true, C.ite_false, C.pick_true, C.pick_false, C.not_bool, C.field_ptr, C.nilCheck_ptr, C.add_mk, C.sub_mk, C.mul_mk, C.eql_mk, C.neq_mk, C.lss_mk, C.leq_mk, C.gtr_mk, C.geq_mk, C.conv_mk, C.len_mk, C.ext_0, C.ext_1, C.ext3_0, C.ext3_1, C.ext3_2, C.guarded_yes, C.guarded_tf, C.guarded_ft, C.guarded_undef, Bool.not_true, Bool.not_false, Nat.zero_add, eq_self, decide_true, decide_false, hm]
        refine (hb.keep hf (by simp)).all (plain34_c (hG.keep hf) fun w1 hf1 => Leads_c (hG.keep (hf.trans hf1)) kl fun w2 hf2 => ?_)
        rw [edge_dec]
        simp only [C.ite_true, C.ite_false, C.pick_true, C.pick_false, C.not_bool, C.field_ptr, C.nilCheck_ptr, C.add_mk, C.sub_mk, C.mul_mk, C.eql_mk, C.neq_mk, C.lss_mk, C.leq_mk, C.gtr_mk, C.geq_mk, C.conv_mk, C.len_mk, C.ext_0, C.ext_1, C.ext3_0, C.ext3_1, C.ext3_2, C.guarded_yes, C.guarded_tf, C.guarded_ft, C.guarded_undef, Bool.not_true, Bool.not_false, Nat.zero_add, eq_self, decide_true, decide_false]
        exact nx w2 _ (hf.trans (hf1.trans hf2)) (by rw [freeU_succ, c]; simp [hm])
theorem so_first {G : Gr} {W : World} {nv rv dv ov av : Value} {b1 j : Nat} {D : List Nat} (hG : IsG W nv rv G) (hb : GBlk W b1 25 nv rv) (hd : RdS W dv 1 (boolC (metL G.n D))) (hj : G.nxt D = some j)
    (h : ∀ w', Fr [] W w' → F5.k22 K (.pointer (some ⟨b1, 0, none⟩)) (.int .i64 (G.n : Int)) ov dv av (.int .i64 (j : Int)) w') :
    ∀ (i : Nat) (w : World) (f : Int), i ≤ G.n → Fr [] W w → FI G D i f → F5.l13 K (.pointer (some ⟨b1, 0, none⟩)) (.int .i64 (G.n : Int)) ov dv av (.int .i64 f) (.int .i64 ((i : Int) - 1)) w := by
  have hfew := hG.few
  intro i
  induction i with
  | zero =>
    intro w f hi hf hfi
    refine F5.l13.to ?_
    simp only [C.ite_true, C.ite_false, C.pick_true, C.pick_false, C.not_bool, C.field_ptr, C.nilCheck_ptr, C.add_mk, C.sub_mk, C.mul_mk, C.eql_mk, C.neq_mk, C.lss_mk, C.leq_mk, C.gtr_mk, C.geq_mk, C.conv_mk, C.len_mk, C.ext_0, C.ext_1, C.ext3_0, C.ext3_1, C.ext3_2, C.guarded_yes, C.guarded_tf, C.guarded_ft, C.guarded_undef, Bool.not_true, Bool.not_false, Nat.zero_add, eq_self, decide_true, decide_false, show ¬ (((0 : Nat) : Int) - 1 ≥ 0) by omega]
    rw [hfi.is hj]
    exact h w hf
  | succ i ih =>
    intro w f hi hf hfi
    have il : i < G.n := by omega
    refine F5.l13.to ?_
    rw [show ((i + 1 : Nat) : Int) - 1 = (i : Int) by omega]
    simp only [C.ite_true, C.ite_false, C.pick_true, C.pick_false, C.not_bool, C.field_ptr, C.nilCheck_ptr, C.add_mk, C.sub_mk, C.mul_mk, C.eql_mk, C.neq_mk, C.lss_mk, C.leq_mk, C.gtr_mk, C.geq_mk, C.conv_mk, C.len_mk, C.ext_0, C.ext_1, C.ext3_0, C.ext3_1, C.ext3_2, C.guarded_yes, C.guarded_tf, C.guarded_ft, C.guarded_undef, Bool.not_true, Bool.not_false, Nat.zero_add, eq_self, decide_true, decide_false, show ((i : Int) ≥ 0) by omega]
    refine F5.k15.to (C.idx_bool (hd.keep hf) (by rw [metL_len]; exact il) ?_)
    rw [metL_get]
    simp only [C.ite_true, C.ite_false, C.pick_true, C.pick_false, C.not_bool, C.field_ptr, C.nilCheck_ptr, C.add_mk, C.sub_mk, C.mul_mk, C.eql_mk, C.neq_mk, C.lss_mk, C.leq_mk, C.gtr_mk, C.geq_mk, C.conv_mk, C.len_mk, C.ext_0, C.ext_1, C.ext3_0, C.ext3_1, C.ext3_2, C.guarded_yes, C.guarded_tf, C.guarded_ft, C.guarded_undef, Bool.not_true, Bool.not_false, Nat.zero_add, eq_self, decide_true, decide_false]
    have e0 : (!decide (i ∈ D)) = G.freeU D i 0 := by simp [Gr.freeU]
    rw [e0]
    refine so_free (W := w) (hG.keep hf) (hb.keep hf (by simp)) (hd.keep hf) (fun w' hf' => ?_) G.n 0 w (by omega) (Fr.refl _ _)
    have nx : ∀ f', FI G D i f' → F5.k14 K (.pointer (some ⟨b1, 0, none⟩)) (.int .i64 (G.n : Int)) ov dv av (.int .i64 f') (.int .i64 (i : Int)) w' := fun f' a => by
      refine F5.k14.to ?_
      simp only [C.ite_true, C.ite_false, C.pick_true, C.pick_false, C.not_bool, C.field_ptr, C.nilCheck_ptr, C.add_mk, C.sub_mk, C.mul_mk, C.eql_mk, C.neq_mk, C.lss_mk, C.leq_mk, C.gtr_mk, C.geq_mk, C.conv_mk, C.len_mk, C.ext_0, C.ext_1, C.ext3_0, C.ext3_1, C.ext3_2, C.guarded_yes, C.guarded_tf, C.guarded_ft, C.guarded_undef, Bool.not_true, Bool.not_false, Nat.zero_add, eq_self, decide_true, decide_false]
      rw [wrap64_id (n := (i : Int) - 1) (by omega)]
      exact ih w' f' (by omega) (hf.trans hf') a
    refine F5.k20.to ?_
    cases c : G.free D i with
    | false => simp only [C.ite_true, C.ite_false, C.pick_true, C.pick_false, C.not_bool, C.field_ptr, C.nilCheck_ptr, C.add_mk, C.sub_mk, C.mul_mk, C.eql_mk, C.neq_mk, C.lss_mk, C.leq_mk, C.gtr_mk, C.geq_mk, C.conv_mk, C.len_mk, C.ext_0, C.ext_1, C.ext3_0, C.ext3_1, C.ext3_2, C.guarded_yes, C.guarded_tf, C.guarded_ft, C.guarded_undef, Bool.not_true, Bool.not_false, Nat.zero_add, eq_self, decide_true, decide_false]; exact nx f (hfi.no c)
    | true => simp only [C.ite_true, C.ite_false, C.pick_true, C.pick_false, C.not_bool, C.field_ptr, C.nilCheck_ptr, C.add_mk, C.sub_mk, C.mul_mk, C.eql_mk, C.neq_mk, C.lss_mk, C.leq_mk, C.gtr_mk, C.geq_mk, C.conv_mk, C.len_mk, C.ext_0, C.ext_1, C.ext3_0, C.ext3_1, C.ext3_2, C.guarded_yes, C.guarded_tf, C.guarded_ft, C.guarded_undef, Bool.not_true, Bool.not_false, Nat.zero_add, eq_self, decide_true, decide_false]; exact nx _ (FI.yes il c)
theorem so_out {G : Gr} {W : World} {nv rv dv ov : Value} {b1 : Nat} (hG : IsG W nv rv G) (hb : GBlk W b1 25 nv rv) (hn : NewS W dv) (ho : RdS W ov 1 (intC (natI G.topo))) (hl : G.topo.length = G.n)
    (h : ∀ w', Fr [] W w' → K (.bool true) w') :
    ∀ (d a : Nat) (w : World), G.n = a + d → Fr [] W w → OwnS w dv 4 1 (boolC (metL G.n (G.topo.take a))) → F5.l9 K (.pointer (some ⟨b1, 0, none⟩)) (.int .i64 (G.n : Int)) ov dv (.int .i64 (a : Int)) w := by
  have hfew := hG.few
  intro d
  induction d with
  | zero =>
    intro a w ha hf hd
    refine F5.l9.to ?_
    simp only [C.ite_true, C.ite_false, C.pick_true, C.pick_false, C.not_bool, C.field_ptr, C.nilCheck_ptr, C.add_mk, C.sub_mk, C.mul_mk, C.eql_mk, C.neq_mk, C.lss_mk, C.leq_mk, C.gtr_mk, C.geq_mk, C.conv_mk, C.len_mk, C.ext_0, C.ext_1, C.ext3_0, C.ext3_1, C.ext3_2, C.guarded_yes, C.guarded_tf, C.guarded_ft, C.guarded_undef, Bool.not_true, Bool.not_false, Nat.zero_add, eq_self, decide_true, decide_false, show ¬ ((a : Int) < (G.n : Int)) by omega]
    refine F5.k25.to (C.len_rd (ho.keep hf) ?_)
    rw [intC_len, natI_len, hl]
    simp only [C.ite_true, C.ite_false, C.pick_true, C.pick_false, C.not_bool, C.field_ptr, C.nilCheck_ptr, C.add_mk, C.sub_mk, C.mul_mk, C.eql_mk, C.neq_mk, C.lss_mk, C.leq_mk, C.gtr_mk, C.geq_mk, C.conv_mk, C.len_mk, C.ext_0, C.ext_1, C.ext3_0, C.ext3_1, C.ext3_2, C.guarded_yes, C.guarded_tf, C.guarded_ft, C.guarded_undef, Bool.not_true, Bool.not_false, Nat.zero_add, eq_self, decide_true, decide_false]
    exact h w hf
  | succ d ih =>
    intro a w ha hf hd
    have al : a < G.n := by omega
    have alt : a < G.topo.length := by omega
    have hj := topo_at alt
    have hjn := (nxt_some hj).1
    refine F5.l9.to ?_
    simp only [C.ite_true, C.ite_false, C.pick_true, C.pick_false, C.not_bool, C.field_ptr, C.nilCheck_ptr, C.add_mk, C.sub_mk, C.mul_mk, C.eql_mk, C.neq_mk, C.lss_mk, C.leq_mk, C.gtr_mk, C.geq_mk, C.conv_mk, C.len_mk, C.ext_0, C.ext_1, C.ext3_0, C.ext3_1, C.ext3_2, C.guarded_yes, C.guarded_tf, C.guarded_ft, C.guarded_undef, Bool.not_true, Bool.not_false, Nat.zero_add, eq_self, decide_true, decide_false, show ((a : Int) < (G.n : Int)) by omega]
    refine F5.k11.to ?_
    simp only [C.ite_true, C.ite_false, C.pick_true, C.pick_false, C.not_bool, C.field_ptr, C.nilCheck_ptr, C.add_mk, C.sub_mk, C.mul_mk, C.eql_mk, C.neq_mk, C.lss_mk, C.leq_mk, C.gtr_mk, C.geq_mk, C.conv_mk, C.len_mk, C.ext_0, C.ext_1, C.ext3_0, C.ext3_1, C.ext3_2, C.guarded_yes, C.guarded_tf, C.guarded_ft, C.guarded_undef, Bool.not_true, Bool.not_false, Nat.zero_add, eq_self, decide_true, decide_false]
    rw [wrap64_id (n := (G.n : Int) - 1) (by omega)]
    refine so_first (W := w) (D := G.topo.take a) (hG.keep hf) (hb.keep hf (by simp)) hd.rd hj (fun w1 hf1 => ?_) G.n w (-1) (Nat.le_refl _) (Fr.refl _ _) (.inl ⟨rfl, fun k a b => by omega⟩)
    have f1 := hf.trans hf1
    refine F5.k22.to (C.len_rd (ho.keep f1) ?_)
    rw [intC_len, natI_len, hl]
    simp only [C.ite_true, C.ite_false, C.pick_true, C.pick_false, C.not_bool, C.field_ptr, C.nilCheck_ptr, C.add_mk, C.sub_mk, C.mul_mk, C.eql_mk, C.neq_mk, C.lss_mk, C.leq_mk, C.gtr_mk, C.geq_mk, C.conv_mk, C.len_mk, C.ext_0, C.ext_1, C.ext3_0, C.ext3_1, C.ext3_2, C.guarded_yes, C.guarded_tf, C.guarded_ft, C.guarded_undef, Bool.not_true, Bool.not_false, Nat.zero_add, eq_self, decide_true, decide_false, show ¬ ((a : Int) ≥ (G.n : Int)) by omega, show ¬ ((G.topo[a] : Int) < 0) by omega]
    have an : a < (natI G.topo).length := by rw [natI_len]; exact alt
    refine C.idx_int (ho.keep f1) an fun g o cs e fz hg hc => C.load1_of hg hc ?_
    rw [natI_get alt]
    simp only [C.ite_true, C.ite_false, C.pick_true, C.pick_false, C.not_bool, C.field_ptr, C.nilCheck_ptr, C.add_mk, C.sub_mk, C.mul_mk, C.eql_mk, C.neq_mk, C.lss_mk, C.leq_mk, C.gtr_mk, C.geq_mk, C.conv_mk, C.len_mk, C.ext_0, C.ext_1, C.ext3_0, C.ext3_1, C.ext3_2, C.guarded_yes, C.guarded_tf, C.guarded_ft, C.guarded_undef, Bool.not_true, Bool.not_false, Nat.zero_add, eq_self, decide_true, decide_false, ne_eq, not_true_eq_false]
    refine F5.k24.to (flag_set f1 hn (hd.keep hf1 (by simp)) (by rw [metL_len]; exact hjn) fun w2 fr2 od2 hf2 => ?_)
    rw [metL_set (T := G.topo.take (a + 1)) hjn (fun x => by rw [List.take_succ_eq_append_getElem alt, List.mem_append, List.mem_singleton])] at od2
    refine F5.k10.to ?_
    simp only [C.ite_true, C.ite_false, C.pick_true, C.pick_false, C.not_bool, C.field_ptr, C.nilCheck_ptr, C.add_mk, C.sub_mk, C.mul_mk, C.eql_mk, C.neq_mk, C.lss_mk, C.leq_mk, C.gtr_mk, C.geq_mk, C.conv_mk, C.len_mk, C.ext_0, C.ext_1, C.ext3_0, C.ext3_1, C.ext3_2, C.guarded_yes, C.guarded_tf, C.guarded_ft, C.guarded_undef, Bool.not_true, Bool.not_false, Nat.zero_add, eq_self, decide_true, decide_false]
    rw [wrap64_id (n := (a : Int) + 1) (by omega), show (a : Int) + 1 = ((a + 1 : Nat) : Int) by omega]
    exact ih (a + 1) w2 (by omega) fr2 od2
theorem SccOrders_c {nv rv : Value} {G : Gr} (hG : IsG0 w nv rv G) (h : ∀ w', Fr [] w w' → K (.bool true) w') : C.call Try.prog 5 #[.agg #[nv, rv]] w K := by
  refine F5.sh (GBlk.new0 hG fun b w1 hf1 hb1 hb hG1 => alive34_c fun w2 hf2 => ?_)
  simp only [C.ite_true, C.ite_false, C.pick_true, C.pick_false, C.not_bool, C.field_ptr, C.nilCheck_ptr, C.add_mk, C.sub_mk, C.mul_mk, C.eql_mk, C.neq_mk, C.lss_mk, C.leq_mk, C.gtr_mk, C.geq_mk, C.conv_mk, C.len_mk, C.ext_0, C.ext_1, C.ext3_0, C.ext3_1, C.ext3_2, C.guarded_yes, C.guarded_tf, C.guarded_ft, C.guarded_undef, Bool.not_true, Bool.not_false, Nat.zero_add, eq_self, decide_true, decide_false]
  refine F5.k3.to ((hb.keep hf2 (by simp)).all (few34_c hG (hf1.trans hf2) fun nv' w3 hf3 hG3 => GBlk.set (hb.keep (hf2.trans hf3) (by simp)) (hG3.keep ((hf1.trans hf2).trans hf3)) fun w4 hu => ?_))
  have f04 : Fr [] w w4 := ((hf1.trans hf2).trans hf3).then hu.fr fun x hx => .inr (by simp only [List.mem_singleton] at hx; omega)
  have hG4 := hG3.keep f04
  have hb4 : GBlk w4 b 25 nv' rv := hu.at_
  generalize G.cut 16 = H at *
  have hfew := hG4.few
  refine C.draw_of (fun w' => Fr [] w4 w') fun w5 hf5 _ => ⟨hf5, ?_⟩
  simp only [C.ite_true, C.ite_false, C.pick_true, C.pick_false, C.not_bool, C.field_ptr, C.nilCheck_ptr, C.add_mk, C.sub_mk, C.mul_mk, C.eql_mk, C.neq_mk, C.lss_mk, C.leq_mk, C.gtr_mk, C.geq_mk, C.conv_mk, C.len_mk, C.ext_0, C.ext_1, C.ext3_0, C.ext3_1, C.ext3_2, C.guarded_yes, C.guarded_tf, C.guarded_ft, C.guarded_undef, Bool.not_true, Bool.not_false, Nat.zero_add, eq_self, decide_true, decide_false]
  refine C.load1S_of (v := nv') (fun w' hw => ⟨_, _, _, hb4.keep hw (by simp), rfl⟩) (hG4.len_next ?_)
  refine C.loadAS_of (vs := [nv', rv]) (fun w' hw => ⟨_, _, _, hb4.keep hw (by simp), by simp, rfl⟩) ?_
  simp only [and_true]
  refine Order_c (hG4.keep hf5) (fun hz w6 hf6 => ⟨hf5.trans hf6, ?_⟩) (fun hz ov w6 hf6 ho6 hl6 => ⟨hf5.trans hf6, ?_⟩)
  · have f46 := hf5.trans hf6
    refine (hb4.keep f46 (by simp)).all (Rings_c (hG4.keep f46) fun rg w7 hf7 _ ho7 => C.len_rd ho7.rd ?_)
    rw [intC_len, natI_len]
    have : H.ringL.length ≠ 0 := fun e => hz (List.eq_nil_of_length_eq_zero e)
    simp only [C.ite_true, C.ite_false, C.pick_true, C.pick_false, C.not_bool, C.field_ptr, C.nilCheck_ptr, C.add_mk, C.sub_mk, C.mul_mk, C.eql_mk, C.neq_mk, C.lss_mk, C.leq_mk, C.gtr_mk, C.geq_mk, C.conv_mk, C.len_mk, C.ext_0, C.ext_1, C.ext3_0, C.ext3_1, C.ext3_2, C.guarded_yes, C.guarded_tf, C.guarded_ft, C.guarded_undef, Bool.not_true, Bool.not_false, Nat.zero_add, eq_self, decide_true, decide_false, show ((H.ringL.length : Int) > 0) by omega, show ((0 : Nat) : Int) = 0 from rfl]
    exact h w7 (f04.trans (f46.trans hf7))
  · have f46 := hf5.trans hf6
    refine (hb4.keep f46 (by simp)).all (Rings_c (hG4.keep f46) fun rg w7 hf7 _ ho7 => C.len_rd ho7.rd ?_)
    rw [intC_len, natI_len, hz]
    simp only [C.ite_true, C.ite_false, C.pick_true, C.pick_false, C.not_bool, C.field_ptr, C.nilCheck_ptr, C.add_mk, C.sub_mk, C.mul_mk, C.eql_mk, C.neq_mk, C.lss_mk, C.leq_mk, C.gtr_mk, C.geq_mk, C.conv_mk, C.len_mk, C.ext_0, C.ext_1, C.ext3_0, C.ext3_1, C.ext3_2, C.guarded_yes, C.guarded_tf, C.guarded_ft, C.guarded_undef, Bool.not_true, Bool.not_false, Nat.zero_add, eq_self, decide_true, decide_false, List.length_nil, show ¬ (((0 : Nat) : Int) > 0) by omega]
    have f47 := f46.trans hf7
    refine F5.k7.to (flags_new (by omega) fun dv w8 hf8 hn8 ho8 => ?_)
    refine so_out (W := w7) (hG4.keep f47) ((hb4.keep f47 (by simp))) hn8 (ho6.rd.keep hf7) hl6 (fun w' hf' => h w' (f04.trans (f47.trans hf'))) H.n 0 w8 (by omega) hf8 ?_
    rw [List.take_zero, metL_nil]
    exact ho8
end
end Go.Proofs.YtchonfdnghimdaaV
