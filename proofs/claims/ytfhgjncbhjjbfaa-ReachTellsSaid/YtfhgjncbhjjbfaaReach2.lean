/- Layer 33: the way to a node: what the call comes to. -/
import Derived.Test.YtfhgjncbhjjbfaaReach1
namespace Go.Proofs.YtfhgjncbhjjbfaaV
open Go Go.Proofs Go.RowKit
set_option linter.unusedVariables false
set_option linter.unusedSimpArgs false
set_option maxRecDepth 10000
def Gr.pred (G : Gr) (j : Nat) : Nat := ((G.bkL j).find? fun a => decide (G.dst a = G.dst j - 1)).getD 0
def Gr.anc (G : Gr) : Nat → Nat → Nat
  | 0, i => i
  | m + 1, i => G.pred (G.anc m i)
/-- The way to a node. -/
def Gr.way (G : Gr) (i : Nat) : List Nat := (List.range ((G.dst i).toNat + 1)).map fun k => G.anc ((G.dst i).toNat - k) i
theorem pred_some {G : Gr} {j : Nat} (h : 0 < G.dst j) : ∃ a, (G.bkL j).find? (fun a => decide (G.dst a = G.dst j - 1)) = some a := by
  obtain ⟨a, h1, h2⟩ := dst_pred (G := G) (j := j) (k := (G.dst j).toNat - 1) (by omega)
  cases hf : (G.bkL j).find? fun a => decide (G.dst a = G.dst j - 1) with
  | some b => exact ⟨b, rfl⟩
  | none =>
    have := List.find?_eq_none.1 hf a (List.mem_filter.2 ⟨List.mem_range.2 (dst_node (by omega)), h2⟩)
    exact absurd (show G.dst a = G.dst j - 1 by omega) (by simpa using this)
theorem pred_ok {G : Gr} {j : Nat} (h : 0 < G.dst j) : G.pred j < G.n ∧ G.edge (G.pred j) j = true ∧ G.dst (G.pred j) = G.dst j - 1 ∧ ∀ a, a < G.pred j → ¬ (G.edge a j = true ∧ G.dst a = G.dst j - 1) := by
  obtain ⟨b, hb⟩ := pred_some h
  have e : G.pred j = b := by unfold Gr.pred; rw [hb]; rfl
  rw [e]
  unfold Gr.bkL at hb
  rw [List.find?_filter, List.find?_range_eq_some] at hb
  obtain ⟨h1, h2, h3⟩ := hb
  simp only [Bool.and_eq_true, decide_eq_true_eq] at h1
  refine ⟨List.mem_range.1 h2, h1.1, h1.2, fun a ha c => ?_⟩
  have := h3 a ha
  simp [c.1, c.2] at this
theorem anc_dst {G : Gr} {i : Nat} : ∀ m : Nat, (m : Int) ≤ G.dst i → G.dst (G.anc m i) = G.dst i - m
  | 0, _ => by simp [Gr.anc]
  | m + 1, h => by
    have ih := anc_dst (G := G) (i := i) m (by omega)
    have := (pred_ok (G := G) (j := G.anc m i) (by omega)).2.2.1
    simp only [Gr.anc]
    omega
theorem way_len (G : Gr) (i : Nat) : (G.way i).length = (G.dst i).toNat + 1 := by simp [Gr.way]
theorem way_get {G : Gr} {i k : Nat} (h : k < (G.way i).length) : (G.way i)[k] = G.anc ((G.dst i).toNat - k) i := by simp [Gr.way]
section
variable {K : VK} {w : World}
/-- The least that could stand there, looked for. -/
theorem path_find {W1 : World} {G : Gr} {dv bv ov rw_ : Value} {c : Nat} (hfew : G.n ≤ 1000) (hd : ∀ w', Fr [] W1 w' → RdS w' dv 1 (intC G.distL)) (hr : ∀ w', Fr [] W1 w' → RdS w' rw_ 1 (intC (natC (G.bkL c)))) (hc : c < G.n) (hpos : 0 < G.dst c)
    (h : ∀ w', Fr [] w w' → F38.k13 K (.int .i64 (G.pred c : Int)) dv bv ov w') :
    ∀ (d t : Nat) (w' : World), (G.bkL c).length = t + d → Fr [] W1 w → Fr [] w w' → (∀ k (hk : k < (G.bkL c).length), k < t → ¬ (G.dst (G.bkL c)[k] = G.dst c - 1)) → 
      F38.l8 K (.int .i64 (c : Int)) dv bv ov rw_ (.int .i64 ((G.bkL c).length : Int)) (.int .i64 (t : Int)) w' := by
  have hbl : (G.bkL c).length ≤ G.n := Nat.le_trans (List.length_filter_le _ _) (by simp)
  obtain ⟨b, hb⟩ := pred_some hpos
  intro d
  induction d with
  | zero =>
    intro t w' ht hf0 hf hn
    exfalso
    have h1 := List.find?_some hb
    have h2 := List.mem_of_find?_eq_some hb
    obtain ⟨k, hk, rfl⟩ := List.getElem_of_mem h2
    exact hn k hk (by omega) (by simpa using h1)
  | succ d ih =>
    intro t w' ht hf0 hf hn
    have htl : t < (G.bkL c).length := by omega
    have hxn : (G.bkL c)[t] < G.n := List.mem_range.1 (List.mem_filter.1 (List.getElem_mem htl)).1
    refine F38.l8.to ?_
    simp only [C.ite_true, C.ite_false, C.pick_true, C.pick_false, C.not_bool, C.field_ptr, C.nilCheck_ptr, C.add_mk, C.sub_mk, C.mul_mk, C.eql_mk, C.neq_mk, C.lss_mk, C.leq_mk, C.gtr_mk, C.geq_mk, C.conv_mk, C.len_mk, C.ext_0, C.ext_1, C.ext3_0, C.ext3_1, C.ext3_2, C.guarded_yes, C.guarded_tf, C.guarded_ft, C.guarded_undef, Bool.not_true, Bool.not_false, Nat.zero_add, eq_self, decide_true, decide_false, show ((t : Int) < ((G.bkL c).length : Int)) by omega]
    have hf1 := hf0.trans hf
    refine F38.k9.to (C.idx_int (hr w' hf1) (by rw [natC_len]; exact htl) fun g o cs e fz hg hcell => C.load1_of hg (by rw [hcell, natC_get]) ?_)
    refine C.draw_of (fun w'' => Fr [] W1 w'') fun w1 hf2 he2 => ⟨hf1.trans hf2, ?_⟩
    have f2 := hf1.trans hf2
    refine C.idx_intS (S := fun w'' => Fr [] W1 w'') hd f2 (by rw [distL_len]; exact hxn) fun g1 o1 hs1 => ?_
    refine C.idx_intS (S := fun w'' => Fr [] W1 w'') hd f2 (by rw [distL_len]; exact hc) fun g2 o2 hs2 => C.load1S_of hs1 (C.load1S_of hs2 ?_)
    have q1 := dst_ge (G := G) (G.bkL c)[t]
    have q2 := dst_lt (G := G) c
    rw [distL_get, distL_get, C.sub_mk, wrap64_id (by omega), C.eql_mk]
    by_cases hm : G.dst (G.bkL c)[t] = G.dst c - 1
    · rw [decide_eq_true hm, C.ite_true]
      have e : G.pred c = (G.bkL c)[t] := by
        unfold Gr.pred
        rw [hb]
        show b = _
        rw [List.find?_eq_some_iff_getElem] at hb
        obtain ⟨h1, k, hk, hkb, hlt⟩ := hb
        rw [← hkb]
        have h1' : G.dst b = G.dst c - 1 := by simpa using h1
        rcases Nat.lt_trichotomy k t with x | x | x
        · exact absurd (by rw [hkb]; exact h1') (hn k hk x)
        · subst x; rfl
        · have := hlt t x
          simp only [Bool.not_eq_true', decide_eq_false_iff_not] at this
          exact absurd hm this
      rw [← e]
      exact h w1 (hf.trans hf2)
    · rw [decide_eq_false hm, C.ite_false]
      refine F38.k12.to ?_
      simp only [C.ite_true, C.ite_false, C.pick_true, C.pick_false, C.not_bool, C.field_ptr, C.nilCheck_ptr, C.add_mk, C.sub_mk, C.mul_mk, C.eql_mk, C.neq_mk, C.lss_mk, C.leq_mk, C.gtr_mk, C.geq_mk, C.conv_mk, C.len_mk, C.ext_0, C.ext_1, C.ext3_0, C.ext3_1, C.ext3_2, C.guarded_yes, C.guarded_tf, C.guarded_ft, C.guarded_undef, Bool.not_true, Bool.not_false, Nat.zero_add, eq_self, decide_true, decide_false]
      rw [wrap64_id (n := (t : Int) + 1) (by omega), show (t : Int) + 1 = ((t + 1 : Nat) : Int) by omega]
      refine ih (t + 1) w1 (by omega) hf0 (hf.trans hf2) fun k hk hkt => ?_
      rcases Nat.lt_or_ge k t with x | x
      · exact hn k hk x
      · obtain rfl : k = t := by omega
        exact hm
theorem path_loop {W1 : World} {G : Gr} {dv bv : Value} {i : Nat} (hfew : G.n ≤ 1000) (hd : RdS W1 dv 1 (intC G.distL)) (hb : RowsAt W1 bv (tab G.n fun j => natC (G.bkL j))) (hi : 0 ≤ G.dst i)
    (h : ∀ v w', Fr [] W1 w' → NewS W1 v → OwnS w' v 3 1 (intC (natC (G.way i))) → K v w') :
    ∀ (d m : Nat) (ov : Value) (w : World), (G.dst i).toNat = m + d → Fr [] W1 w → NewS W1 ov → OwnS w ov 3 1 (intC (natC ((List.range (m + 1)).map fun k => G.anc k i))) → F38.l6 K (.int .i64 (G.anc m i : Int)) dv bv ov w := by
  have hdl := dst_lt (G := G) i
  intro d
  induction d with
  | zero =>
    intro m ov w hm hf hn ho
    have hz := anc_dst (G := G) (i := i) m (by omega)
    have hnode : G.anc m i < G.n := dst_node (by omega)
    refine F38.l6.to (C.idx_int (hd.keep hf) (by rw [distL_len]; exact hnode) fun g o cs e fz hg hc => C.load1_of hg hc ?_)
    rw [distL_get]
    simp only [C.ite_true, C.ite_false, C.pick_true, C.pick_false, C.not_bool, C.field_ptr, C.nilCheck_ptr, C.add_mk, C.sub_mk, C.mul_mk, C.eql_mk, C.neq_mk, C.lss_mk, C.leq_mk, C.gtr_mk, C.geq_mk, C.conv_mk, C.len_mk, C.ext_0, C.ext_1, C.ext3_0, C.ext3_1, C.ext3_2, C.guarded_yes, C.guarded_tf, C.guarded_ft, C.guarded_undef, Bool.not_true, Bool.not_false, Nat.zero_add, eq_self, decide_true, decide_false, show ¬ (G.dst (G.anc m i) > 0) by omega]
    refine F38.k14.to (Reverse_c ho fun w1 hf1 ho1 => h ov w1 (hf.then hf1 fun x hx => .inr (hn.blk x hx)) hn ?_)
    have e : (natC ((List.range (m + 1)).map fun k => G.anc k i)).reverse = natC (G.way i) := by
      unfold natC Gr.way
      rw [← List.map_reverse, ← List.map_reverse]
      congr 1
      refine list_eq_of_get (by simp; omega) fun k h1 h2 => ?_
      simp only [List.getElem_map, List.getElem_reverse, List.getElem_range, List.length_range]
      congr 1
      omega
    rw [← e]
    exact ho1
  | succ d ih =>
    intro m ov w hm hf hn ho
    have hz := anc_dst (G := G) (i := i) m (by omega)
    have hnode : G.anc m i < G.n := dst_node (by omega)
    refine F38.l6.to (C.idx_int (hd.keep hf) (by rw [distL_len]; exact hnode) fun g o cs e fz hg hc => C.load1_of hg hc ?_)
    rw [distL_get]
    simp only [C.ite_true, C.ite_false, C.pick_true, C.pick_false, C.not_bool, C.field_ptr, C.nilCheck_ptr, C.add_mk, C.sub_mk, C.mul_mk, C.eql_mk, C.neq_mk, C.lss_mk, C.leq_mk, C.gtr_mk, C.geq_mk, C.conv_mk, C.len_mk, C.ext_0, C.ext_1, C.ext3_0, C.ext3_1, C.ext3_2, C.guarded_yes, C.guarded_tf, C.guarded_ft, C.guarded_undef, Bool.not_true, Bool.not_false, Nat.zero_add, eq_self, decide_true, decide_false, show G.dst (G.anc m i) > 0 by omega]
    obtain ⟨vs, h1, h2, h3⟩ := hb
    have hv : G.anc m i < vs.length := by rw [h2, tab_len]; exact hnode
    have hr : ∀ w', Fr [] W1 w' → RdS w' vs[G.anc m i] 1 (intC (natC (G.bkL (G.anc m i)))) := fun w' hf' => by
      have := (h3 _ (by rw [tab_len]; exact hnode) hv).keep hf'
      rw [tab_get] at this
      exact this
    refine F38.k7.to (C.idx_sl (h1.keep hf) hv fun g o cs e fz hg hc => C.load1_of hg hc (C.len_rd (hr w hf) ?_))
    rw [intC_len, natC_len]
    refine path_find hfew (fun w' hf' => hd.keep hf') hr hnode (by omega) (fun w1 hf1 => F38.k13.to ?_) (G.bkL (G.anc m i)).length 0 w (by omega) hf (Fr.refl _ _) (by omega)
    refine C.appInt (hf.trans hf1) hn (ho.keep hf1 (by simp)) (by rw [natC_len]; simp; omega) fun v' w2 hf2 hn2 ho2 _ => ?_
    refine ih (m + 1) v' w2 (by omega) hf2 hn2 ?_
    rw [List.range_succ (n := m + 1), List.map_append, List.map_singleton, natC_app]
    exact ho2
theorem Path_c {nv rv : Value} {G : Gr} {i : Int} (hG : IsG w nv rv G) (h : ∀ v w', Fr [] w w' → NewS w v → OwnS w' v 3 1 (intC (natC (if 0 ≤ i ∧ i < (G.n : Int) ∧ 0 ≤ G.dst i.toNat then G.way i.toNat else []))) → K v w') : C.call Try.prog 38 #[.agg #[nv, rv], .int .i64 i] w K := by
  have hfew := hG.few
  refine F38.sh (GBlk.new hG fun b w1 hf1 hb1 hb hG1 => hb.all (Dist_c hG1 fun dv w2 hf2 hn2 ho2 => (hb.keep hf2 (by simp)).all (is_c (hG1.keep hf2) fun w3 hf3 => ?_)))
  have f3 := (hf1.trans hf2).trans hf3
  by_cases hc : 0 ≤ i ∧ i < (G.n : Int)
  · obtain ⟨m, rfl⟩ : ∃ m : Nat, i = (m : Int) := ⟨i.toNat, by omega⟩
    have hm : m < G.n := by omega
    rw [decide_eq_true hc]
    simp only [C.ite_true, C.ite_false, C.pick_true, C.pick_false, C.not_bool, C.field_ptr, C.nilCheck_ptr, C.add_mk, C.sub_mk, C.mul_mk, C.eql_mk, C.neq_mk, C.lss_mk, C.leq_mk, C.gtr_mk, C.geq_mk, C.conv_mk, C.len_mk, C.ext_0, C.ext_1, C.ext3_0, C.ext3_1, C.ext3_2, C.guarded_yes, C.guarded_tf, C.guarded_ft, C.guarded_undef, Bool.not_true, Bool.not_false, Nat.zero_add, eq_self, decide_true, decide_false]
    have ho3 := ho2.keep hf3 (by simp)
    refine C.idx_int ho3.rd (by rw [distL_len]; exact hm) fun g o cs e fz hg hcell => C.load1_of hg hcell ?_
    rw [distL_get]
    by_cases hd : G.dst m = -1
    · simp only [C.ite_true, C.ite_false, C.pick_true, C.pick_false, C.not_bool, C.field_ptr, C.nilCheck_ptr, C.add_mk, C.sub_mk, C.mul_mk, C.eql_mk, C.neq_mk, C.lss_mk, C.leq_mk, C.gtr_mk, C.geq_mk, C.conv_mk, C.len_mk, C.ext_0, C.ext_1, C.ext3_0, C.ext3_1, C.ext3_2, C.guarded_yes, C.guarded_tf, C.guarded_ft, C.guarded_undef, Bool.not_true, Bool.not_false, Nat.zero_add, eq_self, decide_true, decide_false, hd]
      refine h _ w3 f3 (NewS.nil _) ?_
      rw [if_neg (by rw [Int.toNat_natCast]; omega)]
      exact OwnS.nil _ _ _
    · have hge := dst_ge (G := G) m
      simp only [C.ite_true, C.ite_false, C.pick_true, C.pick_false, C.not_bool, C.field_ptr, C.nilCheck_ptr, C.add_mk, C.sub_mk, C.mul_mk, C.eql_mk, C.neq_mk, C.lss_mk, C.leq_mk, C.gtr_mk, C.geq_mk, C.conv_mk, C.len_mk, C.ext_0, C.ext_1, C.ext3_0, C.ext3_1, C.ext3_2, C.guarded_yes, C.guarded_tf, C.guarded_ft, C.guarded_undef, Bool.not_true, Bool.not_false, Nat.zero_add, eq_self, decide_true, decide_false, hd]
      refine F38.k4.to ((hb.keep (hf2.trans hf3) (by simp)).all (Back_c (hG1.keep (hf2.trans hf3)) fun bv w4 hf4 hb4 _ => C.run_of (bsI (m : Int)) ?_))
      have hw := New.mk' w4 (.cells #[.int .i64 (m : Int)] 3)
      refine path_loop (W1 := w4) (i := m) hfew (ho3.keep hf4 (by simp)).rd hb4 (by omega) (fun v w5 hf5 hn5 ho5 => h v w5 ((f3.trans hf4).trans hf5) (hn5.mono (f3.trans hf4).size) ?_) (G.dst m).toNat 0 _ _ (by omega) hw.fr (fun g hg => ?_) (OwnS.of_block hw.at_ rfl (by simp) (by simp) (by simp) (by simp [intC, natC, Gr.anc]; rfl) (by simp [intC, natC, Gr.anc]))
      · rw [if_pos (by rw [Int.toNat_natCast]; omega), Int.toNat_natCast]
        exact ho5
      · simp only [Value.ownBlock, Option.some.injEq] at hg
        omega
  · rw [decide_eq_false hc]
    simp only [C.ite_true, C.ite_false, C.pick_true, C.pick_false, C.not_bool, C.field_ptr, C.nilCheck_ptr, C.add_mk, C.sub_mk, C.mul_mk, C.eql_mk, C.neq_mk, C.lss_mk, C.leq_mk, C.gtr_mk, C.geq_mk, C.conv_mk, C.len_mk, C.ext_0, C.ext_1, C.ext3_0, C.ext3_1, C.ext3_2, C.guarded_yes, C.guarded_tf, C.guarded_ft, C.guarded_undef, Bool.not_true, Bool.not_false, Nat.zero_add, eq_self, decide_true, decide_false]
    refine h _ w3 f3 (NewS.nil _) ?_
    rw [if_neg (by omega)]
    exact OwnS.nil _ _ _
end
end Go.Proofs.YtfhgjncbhjjbfaaV
