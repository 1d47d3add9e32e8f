/- Layer 35, the lists told, and the statements' own: what the calls come to. -/
import Derived.Test.YtfhgjncbhjjbfaaRefs6
namespace Go.Proofs.YtfhgjncbhjjbfaaV
open Go Go.Proofs Go.RowKit
set_option linter.unusedVariables false
set_option linter.unusedSimpArgs false
set_option maxRecDepth 10000
section
variable {K : VK} {w : World}
theorem falls_loop {W1 : World} {n : Nat} {fv : Value} {p : Nat → Bool} (hn : n ≤ 1000) (hd : RdS W1 fv 1 (boolC (tab n p))) (h : ∀ v w', Fr [] W1 w' → NewS W1 v → OwnS w' v 3 1 (intC (natC ((List.range n).filter p))) → K v w') :
    ∀ (d i : Nat) (v : Value) (w : World), n = i + d → Fr [] W1 w → NewS W1 v → OwnS w v 3 1 (intC (natC ((List.range i).filter p))) → F44.l3 K v fv (.int .i64 (n : Int)) (.int .i64 (i : Int)) w := by
  intro d
  induction d with
  | zero =>
    intro i v w hi hf hn' ho
    refine F44.l3.to ?_
    simp only [C.ite_true, C.ite_false, C.pick_true, C.pick_false, C.not_bool, C.field_ptr, C.nilCheck_ptr, C.add_mk, C.sub_mk, C.mul_mk, C.eql_mk, C.neq_mk, C.lss_mk, C.leq_mk, C.gtr_mk, C.geq_mk, C.conv_mk, C.len_mk, C.ext_0, C.ext_1, C.ext3_0, C.ext3_1, C.ext3_2, C.guarded_yes, C.guarded_tf, C.guarded_ft, C.guarded_undef, Bool.not_true, Bool.not_false, Nat.zero_add, eq_self, decide_true, decide_false, show ¬ ((i : Int) < (n : Int)) by omega]
    refine F44.k8.to (h v w hf hn' ?_)
    rw [hi]; exact ho
  | succ d ih =>
    intro i v w hi hf hn' ho
    refine F44.l3.to ?_
    simp only [C.ite_true, C.ite_false, C.pick_true, C.pick_false, C.not_bool, C.field_ptr, C.nilCheck_ptr, C.add_mk, C.sub_mk, C.mul_mk, C.eql_mk, C.neq_mk, C.lss_mk, C.leq_mk, C.gtr_mk, C.geq_mk, C.conv_mk, C.len_mk, C.ext_0, C.ext_1, C.ext3_0, C.ext3_1, C.ext3_2, C.guarded_yes, C.guarded_tf, C.guarded_ft, C.guarded_undef, Bool.not_true, Bool.not_false, Nat.zero_add, eq_self, decide_true, decide_false, show ((i : Int) < (n : Int)) by omega]
    have hs := filter_range_succ p i
    have hlen : (natC ((List.range i).filter p)).length ≤ i := by rw [natC_len]; exact Nat.le_trans (List.length_filter_le _ _) (by simp)
    have nx : ∀ v' w', Fr [] W1 w' → NewS W1 v' → OwnS w' v' 3 1 (intC (natC ((List.range (i + 1)).filter p))) → F44.k7 K v' fv (.int .i64 (n : Int)) (.int .i64 (i : Int)) w' := by
      intro v' w' a b c
      refine F44.k7.to ?_
      simp only [C.ite_true, C.ite_false, C.pick_true, C.pick_false, C.not_bool, C.field_ptr, C.nilCheck_ptr, C.add_mk, C.sub_mk, C.mul_mk, C.eql_mk, C.neq_mk, C.lss_mk, C.leq_mk, C.gtr_mk, C.geq_mk, C.conv_mk, C.len_mk, C.ext_0, C.ext_1, C.ext3_0, C.ext3_1, C.ext3_2, C.guarded_yes, C.guarded_tf, C.guarded_ft, C.guarded_undef, Bool.not_true, Bool.not_false, Nat.zero_add, eq_self, decide_true, decide_false]
      rw [wrap64_id (n := (i : Int) + 1) (by omega), show (i : Int) + 1 = ((i + 1 : Nat) : Int) by omega]
      exact ih (i + 1) v' w' (by omega) a b c
    refine F44.k4.to (C.idx_bool (hd.keep hf) (by rw [tab_len]; omega) fun g o cs e fz hg hc => C.load1_of hg hc ?_)
    rw [tab_get]
    cases hp : p i with
    | true =>
      simp only [C.ite_true, C.ite_false, C.pick_true, C.pick_false, C.not_bool, C.field_ptr, C.nilCheck_ptr, C.add_mk, C.sub_mk, C.mul_mk, C.eql_mk, C.neq_mk, C.lss_mk, C.leq_mk, C.gtr_mk, C.geq_mk, C.conv_mk, C.len_mk, C.ext_0, C.ext_1, C.ext3_0, C.ext3_1, C.ext3_2, C.guarded_yes, C.guarded_tf, C.guarded_ft, C.guarded_undef, Bool.not_true, Bool.not_false, Nat.zero_add, eq_self, decide_true, decide_false]
      refine C.appInt hf hn' ho (by omega) fun v' w' hf' hn'' ho' _ => nx v' w' hf' hn'' ?_
      rw [hs, if_pos hp, natC_app]
      exact ho'
    | false =>
      simp only [C.ite_true, C.ite_false, C.pick_true, C.pick_false, C.not_bool, C.field_ptr, C.nilCheck_ptr, C.add_mk, C.sub_mk, C.mul_mk, C.eql_mk, C.neq_mk, C.lss_mk, C.leq_mk, C.gtr_mk, C.geq_mk, C.conv_mk, C.len_mk, C.ext_0, C.ext_1, C.ext3_0, C.ext3_1, C.ext3_2, C.guarded_yes, C.guarded_tf, C.guarded_ft, C.guarded_undef, Bool.not_true, Bool.not_false, Nat.zero_add, eq_self, decide_true, decide_false]
      refine nx v w hf hn' ?_
      rw [hs, if_neg (by simp [hp]), List.append_nil]
      exact ho
theorem Falls_c {nv rv : Value} {G : Gr} (hG : IsG w nv rv G) (h : ∀ v w', Fr [] w w' → NewS w v → OwnS w' v 3 1 (intC (natC G.freeL)) → K v w') : C.call Try.prog 44 #[.agg #[nv, rv]] w K := by
  refine F44.sh (GBlk.new hG fun b w1 hf1 hb1 hb hG1 => hb.all (pfalls_c hG1 fun fv w2 hf2 hn2 ho2 => C.len_rd ho2.rd ?_))
  rw [boolC_len, tab_len]
  exact falls_loop hG.few ho2.rd (fun v w' hf hn ho => h v w' ((hf1.trans hf2).trans hf) (hn.mono (hf1.trans hf2).size) ho) G.n 0 _ w2 (by omega) (Fr.refl _ _) (NewS.nil _) (OwnS.nil _ _ _)
theorem Leaks_c {nv rv : Value} {G : Gr} (hG : IsG w nv rv G) (h : ∀ v w', Fr [] w w' → NewS w v → OwnS w' v 3 1 (intC (natC G.leakL)) → K v w') : C.call Try.prog 47 #[.agg #[nv, rv]] w K := by
  refine F47.sh (GBlk.new hG fun b w1 hf1 hb1 hb hG1 => hb.all (pfalls_c hG1 fun fv w2 hf2 hn2 ho2 => C.new_of fun b3 w3 hw3 => C.store1_of hw3.at_ ho2.one.2 ho2.one.1 (by simp) fun w4 hu => ?_))
  have e3 := hw3.is
  have l2 := ho2.mem_lt
  have s2 := hf2.size
  have f14 : Fr [] w1 w4 := (hf2.trans hw3.fr).then hu.fr fun x hx => .inr (by simp only [List.mem_singleton] at hx; omega)
  have ho4 := (ho2.keep hw3.fr (by simp)).keep' hu.fr fun g hg c => by simp only [List.mem_singleton] at c; have := l2 g hg; omega
  have lb4 := lt_of_at hu.at_
  refine (hb.keep f14 (by simp)).all (Dead_c (hG1.keep f14) fun dv w5 hf5 hn5 ho5 => ?_)
  refine DeleteFunc_c (p := fun n => G.free n.toNat) ho5 (fun w' n K' hf' hmem hk => ?_) fun v' w' hf' ho' hblk => h v' w' (((hf1.trans f14).trans hf5).then hf' fun x hx => .inr (by have := hn5.blk x hx; have := (hf1.trans f14).size; omega)) (fun g hg => by have := hn5 g (by rw [← hblk]; exact hg); have := (hf1.trans f14).size; omega) ?_
  · obtain ⟨r, hr, rfl⟩ := natC_mem.1 hmem
    have hrn : r < G.n := List.mem_range.1 (List.mem_filter.1 hr).1
    have l4 := ho4.mem_lt
    have q1 := hf'.at_ (hf5.at_ hu.at_ (by simp)) fun c => by have := hn5.blk _ c; omega
    refine vcCall_of bodied80 (F80.sh (C.load1_of (v := fv) q1 rfl (C.idx_bool ((ho4.keep hf5 (by simp)).keep' hf' fun g hg c => by have := hn5.blk _ c; have := l4 g hg; omega).rd (by rw [tab_len]; exact hrn) fun g o cs e fz hg hc => C.load1_of hg hc ?_)))
    rw [tab_get]
    exact hk w' (Fr.refl _ _)
  · have e : (natC G.dead).filter (fun n => !G.free n.toNat) = natC G.leakL := by
      unfold natC Gr.dead Gr.leakL
      rw [List.filter_map, List.filter_filter]
      congr 1
      refine List.filter_congr fun j _ => ?_
      simp only [Function.comp, Int.toNat_natCast]
      rw [Bool.and_comm]
    rw [← e]
    exact ho'
/-! ### The statements' own -/
theorem lcount_loop {v : Value} {l : List Int} {i : Int} (hv : RdS w v 1 (intC l)) (hl : l.length ≤ 17592186044416) (h : K (.int .i64 (l.count i : Int)) w) :
    ∀ (d k : Nat), l.length = k + d → F77.l3 K v (.int .i64 i) (.int .i64 ((l.take k).count i : Int)) (.int .i64 (k : Int)) w := by
  intro d
  induction d with
  | zero =>
    intro k hk
    refine F77.l3.to (C.len_rd hv ?_)
    simp only [C.ite_true, C.ite_false, C.pick_true, C.pick_false, C.not_bool, C.field_ptr, C.nilCheck_ptr, C.add_mk, C.sub_mk, C.mul_mk, C.eql_mk, C.neq_mk, C.lss_mk, C.leq_mk, C.gtr_mk, C.geq_mk, C.conv_mk, C.len_mk, C.ext_0, C.ext_1, C.ext3_0, C.ext3_1, C.ext3_2, C.guarded_yes, C.guarded_tf, C.guarded_ft, C.guarded_undef, Bool.not_true, Bool.not_false, Nat.zero_add, eq_self, decide_true, decide_false, intC_len, show ¬ ((k : Int) < (l.length : Int)) by omega]
    rw [List.take_of_length_le (by omega)]
    exact F77.k7.to h
  | succ d ih =>
    intro k hk
    have hkl : k < l.length := by omega
    refine F77.l3.to (C.len_rd hv ?_)
    simp only [C.ite_true, C.ite_false, C.pick_true, C.pick_false, C.not_bool, C.field_ptr, C.nilCheck_ptr, C.add_mk, C.sub_mk, C.mul_mk, C.eql_mk, C.neq_mk, C.lss_mk, C.leq_mk, C.gtr_mk, C.geq_mk, C.conv_mk, C.len_mk, C.ext_0, C.ext_1, C.ext3_0, C.ext3_1, C.ext3_2, C.guarded_yes, C.guarded_tf, C.guarded_ft, C.guarded_undef, Bool.not_true, Bool.not_false, Nat.zero_add, eq_self, decide_true, decide_false, intC_len, show ((k : Int) < (l.length : Int)) by omega]
    have hc1 : (l.take k).count i ≤ k := Nat.le_trans List.count_le_length (by simp; omega)
    have nx : F77.k4 K v (.int .i64 i) (.int .i64 ((l.take (k + 1)).count i : Int)) (.int .i64 (k : Int)) w := by
      refine F77.k4.to ?_
      simp only [C.ite_true, C.ite_false, C.pick_true, C.pick_false, C.not_bool, C.field_ptr, C.nilCheck_ptr, C.add_mk, C.sub_mk, C.mul_mk, C.eql_mk, C.neq_mk, C.lss_mk, C.leq_mk, C.gtr_mk, C.geq_mk, C.conv_mk, C.len_mk, C.ext_0, C.ext_1, C.ext3_0, C.ext3_1, C.ext3_2, C.guarded_yes, C.guarded_tf, C.guarded_ft, C.guarded_undef, Bool.not_true, Bool.not_false, Nat.zero_add, eq_self, decide_true, decide_false]
      rw [wrap64_id (n := (k : Int) + 1) (by omega), show (k : Int) + 1 = ((k + 1 : Nat) : Int) by omega]
      exact ih (k + 1) (by omega)
    rw [List.take_succ_eq_append_getElem hkl, List.count_append, List.count_singleton] at nx
    refine F77.k5.to (C.idx_int hv hkl fun g o cs e fz hg hc => C.load1_of hg hc ?_)
    by_cases c : l[k] = i
    · simp only [C.ite_true, C.ite_false, C.pick_true, C.pick_false, C.not_bool, C.field_ptr, C.nilCheck_ptr, C.add_mk, C.sub_mk, C.mul_mk, C.eql_mk, C.neq_mk, C.lss_mk, C.leq_mk, C.gtr_mk, C.geq_mk, C.conv_mk, C.len_mk, C.ext_0, C.ext_1, C.ext3_0, C.ext3_1, C.ext3_2, C.guarded_yes, C.guarded_tf, C.guarded_ft, C.guarded_undef, Bool.not_true, Bool.not_false, Nat.zero_add, eq_self, decide_true, decide_false, c]
      rw [wrap64_id (by omega)]
      simp only [c, beq_self_eq_true, if_true] at nx
      exact nx
    · simp only [C.ite_true, C.ite_false, C.pick_true, C.pick_false, C.not_bool, C.field_ptr, C.nilCheck_ptr, C.add_mk, C.sub_mk, C.mul_mk, C.eql_mk, C.neq_mk, C.lss_mk, C.leq_mk, C.gtr_mk, C.geq_mk, C.conv_mk, C.len_mk, C.ext_0, C.ext_1, C.ext3_0, C.ext3_1, C.ext3_2, C.guarded_yes, C.guarded_tf, C.guarded_ft, C.guarded_undef, Bool.not_true, Bool.not_false, Nat.zero_add, eq_self, decide_true, decide_false, c]
      simp only [beq_iff_eq, c, if_false, Nat.add_zero] at nx
      exact nx
theorem lcount_c {v : Value} {l : List Int} {i : Int} (hv : RdS w v 1 (intC l)) (hl : l.length ≤ 17592186044416) (h : K (.int .i64 (l.count i : Int)) w) : C.call Try.prog 77 #[v, .int .i64 i] w K := by
  refine F77.sh ?_
  exact lcount_loop hv hl h l.length 0 (by omega)
theorem lcounts_inner {W1 : World} {G : Gr} {bg i : Nat} {nv rv fv ov : Value} {P : Nat → Bool} (hG : IsG W1 nv rv G) (hb : GBlk W1 bg 46 nv rv) (hv : RdS W1 fv 1 (boolC (tab G.n P))) (hf : Fr [] W1 w)
    (h : F43.k11 K fv (.pointer (some ⟨bg, 0, none⟩)) ov (.int .i64 (i : Int)) (.int .i64 (G.cnt P (i : Int) : Int)) w) :
    ∀ (d k : Nat), G.n = k + d → F43.l7 K fv (.pointer (some ⟨bg, 0, none⟩)) ov (.int .i64 (i : Int)) (.int .i64 ((G.roots.count (i : Int) + G.cntR P (i : Int) k : Nat) : Int)) (.int .i64 (k : Int)) w := by
  have hfew := hG.few
  intro d
  induction d with
  | zero =>
    intro k hk
    refine F43.l7.to ((hb.keep hf (by simp)).next ((hG.keep hf).len_next ?_))
    simp only [C.ite_true, C.ite_false, C.pick_true, C.pick_false, C.not_bool, C.field_ptr, C.nilCheck_ptr, C.add_mk, C.sub_mk, C.mul_mk, C.eql_mk, C.neq_mk, C.lss_mk, C.leq_mk, C.gtr_mk, C.geq_mk, C.conv_mk, C.len_mk, C.ext_0, C.ext_1, C.ext3_0, C.ext3_1, C.ext3_2, C.guarded_yes, C.guarded_tf, C.guarded_ft, C.guarded_undef, Bool.not_true, Bool.not_false, Nat.zero_add, eq_self, decide_true, decide_false, show ¬ ((k : Int) < (G.n : Int)) by omega]
    obtain rfl : k = G.n := by omega
    exact h
  | succ d ih =>
    intro k hk
    have hkn : k < G.n := by omega
    have hle := cnt_le (P := P) (j := (i : Int)) hG
    have hmon : ∀ m, m ≤ G.n → G.cntR P (i : Int) m ≤ G.cntR P (i : Int) G.n := fun m hm => by
      obtain ⟨e, he⟩ : ∃ e, G.n = m + e := ⟨G.n - m, by omega⟩
      rw [he]
      clear he hm
      induction e with
      | zero => exact Nat.le_refl _
      | succ e ih => exact Nat.le_trans ih (by show _ ≤ G.cntR P (i : Int) (m + e) + _; omega)
    have h1 := hmon k (by omega)
    have h2 := hmon (k + 1) (by omega)
    unfold Gr.cnt at hle
    refine F43.l7.to ((hb.keep hf (by simp)).next ((hG.keep hf).len_next ?_))
    simp only [C.ite_true, C.ite_false, C.pick_true, C.pick_false, C.not_bool, C.field_ptr, C.nilCheck_ptr, C.add_mk, C.sub_mk, C.mul_mk, C.eql_mk, C.neq_mk, C.lss_mk, C.leq_mk, C.gtr_mk, C.geq_mk, C.conv_mk, C.len_mk, C.ext_0, C.ext_1, C.ext3_0, C.ext3_1, C.ext3_2, C.guarded_yes, C.guarded_tf, C.guarded_ft, C.guarded_undef, Bool.not_true, Bool.not_false, Nat.zero_add, eq_self, decide_true, decide_false, show ((k : Int) < (G.n : Int)) by omega]
    have nx : F43.k8 K fv (.pointer (some ⟨bg, 0, none⟩)) ov (.int .i64 (i : Int)) (.int .i64 ((G.roots.count (i : Int) + G.cntR P (i : Int) (k + 1) : Nat) : Int)) (.int .i64 (k : Int)) w := by
      refine F43.k8.to ?_
      simp only [C.ite_true, C.ite_false, C.pick_true, C.pick_false, C.not_bool, C.field_ptr, C.nilCheck_ptr, C.add_mk, C.sub_mk, C.mul_mk, C.eql_mk, C.neq_mk, C.lss_mk, C.leq_mk, C.gtr_mk, C.geq_mk, C.conv_mk, C.len_mk, C.ext_0, C.ext_1, C.ext3_0, C.ext3_1, C.ext3_2, C.guarded_yes, C.guarded_tf, C.guarded_ft, C.guarded_undef, Bool.not_true, Bool.not_false, Nat.zero_add, eq_self, decide_true, decide_false]
      rw [wrap64_id (n := (k : Int) + 1) (by omega), show (k : Int) + 1 = ((k + 1 : Nat) : Int) by omega]
      exact ih (k + 1) (by omega)
    simp only [Gr.cntR] at nx h2
    refine F43.k9.to (C.idx_bool (hv.keep hf) (by rw [tab_len]; exact hkn) fun g o cs e fz hg hc => C.load1_of hg hc ?_)
    rw [tab_get]
    cases hp : P k with
    | true =>
      simp only [C.ite_true, C.ite_false, C.pick_true, C.pick_false, C.not_bool, C.field_ptr, C.nilCheck_ptr, C.add_mk, C.sub_mk, C.mul_mk, C.eql_mk, C.neq_mk, C.lss_mk, C.leq_mk, C.gtr_mk, C.geq_mk, C.conv_mk, C.len_mk, C.ext_0, C.ext_1, C.ext3_0, C.ext3_1, C.ext3_2, C.guarded_yes, C.guarded_tf, C.guarded_ft, C.guarded_undef, Bool.not_true, Bool.not_false, Nat.zero_add, eq_self, decide_true, decide_false]
      rw [hp] at nx
      exact nx
    | false =>
      simp only [C.not_bool, Bool.not_false, C.ite_true]
      rw [hp] at nx h2
      simp only [cond_false] at nx h2
      refine (hb.keep hf (by simp)).row (hG.keep hf) hkn fun rw_ hrw => lcount_c hrw (row_len hG k) ?_
      simp only [C.ite_true, C.ite_false, C.pick_true, C.pick_false, C.not_bool, C.field_ptr, C.nilCheck_ptr, C.add_mk, C.sub_mk, C.mul_mk, C.eql_mk, C.neq_mk, C.lss_mk, C.leq_mk, C.gtr_mk, C.geq_mk, C.conv_mk, C.len_mk, C.ext_0, C.ext_1, C.ext3_0, C.ext3_1, C.ext3_2, C.guarded_yes, C.guarded_tf, C.guarded_ft, C.guarded_undef, Bool.not_true, Bool.not_false, Nat.zero_add, eq_self, decide_true, decide_false]
      rw [wrap64_id (by omega), show ((G.roots.count (i : Int) + G.cntR P (i : Int) k : Nat) : Int) + ((G.row k).count (i : Int) : Int) = ((G.roots.count (i : Int) + (G.cntR P (i : Int) k + (G.row k).count (i : Int)) : Nat) : Int) by omega]
      exact nx
theorem lcounts_loop {W1 : World} {G : Gr} {bg : Nat} {nv rv fv : Value} {P : Nat → Bool} (hG : IsG W1 nv rv G) (hb : GBlk W1 bg 46 nv rv) (hv : RdS W1 fv 1 (boolC (tab G.n P)))
    (h : ∀ v w', Fr [] W1 w' → NewS W1 v → OwnS w' v 3 1 (intC (tab G.n fun j => (G.cnt P (j : Int) : Int))) → K v w') :
    ∀ (d i : Nat) (ov : Value) (w : World), G.n = i + d → Fr [] W1 w → NewS W1 ov → OwnS w ov 3 1 (intC (tab i fun j => (G.cnt P (j : Int) : Int))) → F43.l3 K fv (.pointer (some ⟨bg, 0, none⟩)) ov (.int .i64 (i : Int)) w := by
  have hfew := hG.few
  intro d
  induction d with
  | zero =>
    intro i ov w hi hf hn ho
    refine F43.l3.to ((hb.keep hf (by simp)).next ((hG.keep hf).len_next ?_))
    simp only [C.ite_true, C.ite_false, C.pick_true, C.pick_false, C.not_bool, C.field_ptr, C.nilCheck_ptr, C.add_mk, C.sub_mk, C.mul_mk, C.eql_mk, C.neq_mk, C.lss_mk, C.leq_mk, C.gtr_mk, C.geq_mk, C.conv_mk, C.len_mk, C.ext_0, C.ext_1, C.ext3_0, C.ext3_1, C.ext3_2, C.guarded_yes, C.guarded_tf, C.guarded_ft, C.guarded_undef, Bool.not_true, Bool.not_false, Nat.zero_add, eq_self, decide_true, decide_false, show ¬ ((i : Int) < (G.n : Int)) by omega]
    obtain rfl : i = G.n := by omega
    exact F43.k12.to (h ov w hf hn ho)
  | succ d ih =>
    intro i ov w hi hf hn ho
    refine F43.l3.to ((hb.keep hf (by simp)).next ((hG.keep hf).len_next ?_))
    simp only [C.ite_true, C.ite_false, C.pick_true, C.pick_false, C.not_bool, C.field_ptr, C.nilCheck_ptr, C.add_mk, C.sub_mk, C.mul_mk, C.eql_mk, C.neq_mk, C.lss_mk, C.leq_mk, C.gtr_mk, C.geq_mk, C.conv_mk, C.len_mk, C.ext_0, C.ext_1, C.ext3_0, C.ext3_1, C.ext3_2, C.guarded_yes, C.guarded_tf, C.guarded_ft, C.guarded_undef, Bool.not_true, Bool.not_false, Nat.zero_add, eq_self, decide_true, decide_false, show ((i : Int) < (G.n : Int)) by omega]
    refine F43.k5.to ((hb.keep hf (by simp)).roots (lcount_c (hG.keep hf).roots hG.rlen ?_))
    have := lcounts_inner (w := w) (i := i) (ov := ov) (K := K) hG hb hv hf (F43.k11.to ?_) G.n 0 (by omega)
    · exact this
    · refine C.appInt hf hn ho (by rw [tab_len]; omega) fun v' w' hf' hn' ho' _ => F43.k4.to ?_
      simp only [C.ite_true, C.ite_false, C.pick_true, C.pick_false, C.not_bool, C.field_ptr, C.nilCheck_ptr, C.add_mk, C.sub_mk, C.mul_mk, C.eql_mk, C.neq_mk, C.lss_mk, C.leq_mk, C.gtr_mk, C.geq_mk, C.conv_mk, C.len_mk, C.ext_0, C.ext_1, C.ext3_0, C.ext3_1, C.ext3_2, C.guarded_yes, C.guarded_tf, C.guarded_ft, C.guarded_undef, Bool.not_true, Bool.not_false, Nat.zero_add, eq_self, decide_true, decide_false]
      rw [wrap64_id (n := (i : Int) + 1) (by omega), show (i : Int) + 1 = ((i + 1 : Nat) : Int) by omega]
      refine ih (i + 1) v' w' (by omega) hf' hn' ?_
      have e : (tab (i + 1) fun j => (G.cnt P (j : Int) : Int)) = (tab i fun j => (G.cnt P (j : Int) : Int)) ++ [(G.cnt P (i : Int) : Int)] := by
        unfold tab
        rw [List.range_succ, List.map_append]
        rfl
      rw [e]
      exact ho'
theorem lcounts_c {nv rv fv : Value} {G : Gr} {P : Nat → Bool} (hG : IsG w nv rv G) (hv : RdS w fv 1 (boolC (tab G.n P))) (h : ∀ v w', Fr [] w w' → NewS w v → OwnS w' v 3 1 (intC (tab G.n fun j => (G.cnt P (j : Int) : Int))) → K v w') : C.call Try.prog 43 #[.agg #[nv, rv], fv] w K := by
  refine F43.sh (GBlk.new hG fun b w1 hf1 hb1 hb hG1 => ?_)
  exact lcounts_loop hG1 hb (hv.keep hf1) (fun v w' hf hn ho => h v w' (hf1.trans hf) (hn.mono hf1.size) ho) G.n 0 _ w1 (by omega) (Fr.refl _ _) (NewS.nil _) (OwnS.nil _ _ _)
theorem lfalls_inner {W1 : World} {G : Gr} {r : Nat} {y1 y4 fv cv : Value} (hfew : G.n ≤ 1000) (hnf : NewS W1 fv) (hd : ∀ g ∈ blkS cv, g ∉ blkS fv)
    (h : ∀ w', Fr [] W1 w' → OwnS w' fv 4 1 (boolC (tab G.n (G.fr (r + 1)))) → F46.k4 K y1 fv y4 w') :
    ∀ (d i : Nat) (w : World), G.n = i + d → Fr [] W1 w → RdS w cv 1 (intC (tab G.n fun j => (G.cnt (G.fr r) (j : Int) : Int))) → OwnS w fv 4 1 (boolC (tab G.n fun j => G.fr r j || (decide (j < i) && decide (G.cnt (G.fr r) (j : Int) = 0)))) → F46.l7 K y1 fv y4 cv (.int .i64 (i : Int)) w := by
  intro d
  induction d with
  | zero =>
    intro i w hi hf hc ho
    refine F46.l7.to (C.len_rd hc ?_)
    rw [intC_len, tab_len]
    simp only [C.ite_true, C.ite_false, C.pick_true, C.pick_false, C.not_bool, C.field_ptr, C.nilCheck_ptr, C.add_mk, C.sub_mk, C.mul_mk, C.eql_mk, C.neq_mk, C.lss_mk, C.leq_mk, C.gtr_mk, C.geq_mk, C.conv_mk, C.len_mk, C.ext_0, C.ext_1, C.ext3_0, C.ext3_1, C.ext3_2, C.guarded_yes, C.guarded_tf, C.guarded_ft, C.guarded_undef, Bool.not_true, Bool.not_false, Nat.zero_add, eq_self, decide_true, decide_false, show ¬ ((i : Int) < (G.n : Int)) by omega]
    refine h w hf ?_
    rw [tab_congr (g := fun j => G.fr r j || (decide (j < i) && decide (G.cnt (G.fr r) (j : Int) = 0))) fun j hj => by rw [decide_eq_true (show j < i by omega), Bool.true_and]; rfl]
    exact ho
  | succ d ih =>
    intro i w hi hf hc ho
    have hin : i < G.n := by omega
    refine F46.l7.to (C.len_rd hc ?_)
    rw [intC_len, tab_len]
    simp only [C.ite_true, C.ite_false, C.pick_true, C.pick_false, C.not_bool, C.field_ptr, C.nilCheck_ptr, C.add_mk, C.sub_mk, C.mul_mk, C.eql_mk, C.neq_mk, C.lss_mk, C.leq_mk, C.gtr_mk, C.geq_mk, C.conv_mk, C.len_mk, C.ext_0, C.ext_1, C.ext3_0, C.ext3_1, C.ext3_2, C.guarded_yes, C.guarded_tf, C.guarded_ft, C.guarded_undef, Bool.not_true, Bool.not_false, Nat.zero_add, eq_self, decide_true, decide_false, show ((i : Int) < (G.n : Int)) by omega]
    have nx : ∀ w', Fr [] W1 w' → RdS w' cv 1 (intC (tab G.n fun j => (G.cnt (G.fr r) (j : Int) : Int))) → OwnS w' fv 4 1 (boolC (tab G.n fun j => G.fr r j || (decide (j < i + 1) && decide (G.cnt (G.fr r) (j : Int) = 0)))) → F46.k8 K y1 fv y4 cv (.int .i64 (i : Int)) w' := by
      intro w' a b c
      refine F46.k8.to ?_
      simp only [C.ite_true, C.ite_false, C.pick_true, C.pick_false, C.not_bool, C.field_ptr, C.nilCheck_ptr, C.add_mk, C.sub_mk, C.mul_mk, C.eql_mk, C.neq_mk, C.lss_mk, C.leq_mk, C.gtr_mk, C.geq_mk, C.conv_mk, C.len_mk, C.ext_0, C.ext_1, C.ext3_0, C.ext3_1, C.ext3_2, C.guarded_yes, C.guarded_tf, C.guarded_ft, C.guarded_undef, Bool.not_true, Bool.not_false, Nat.zero_add, eq_self, decide_true, decide_false]
      rw [wrap64_id (n := (i : Int) + 1) (by omega), show (i : Int) + 1 = ((i + 1 : Nat) : Int) by omega]
      exact ih (i + 1) w' (by omega) a b c
    refine F46.k9.to (C.idx_int hc (by rw [tab_len]; exact hin) fun g o cs e fz hg hcell => C.load1_of hg hcell ?_)
    rw [tab_get]
    by_cases hz : G.cnt (G.fr r) (i : Int) = 0
    · have e : ((G.cnt (G.fr r) (i : Int) : Int)) = 0 := by omega
      simp only [C.ite_true, C.ite_false, C.pick_true, C.pick_false, C.not_bool, C.field_ptr, C.nilCheck_ptr, C.add_mk, C.sub_mk, C.mul_mk, C.eql_mk, C.neq_mk, C.lss_mk, C.leq_mk, C.gtr_mk, C.geq_mk, C.conv_mk, C.len_mk, C.ext_0, C.ext_1, C.ext3_0, C.ext3_1, C.ext3_2, C.guarded_yes, C.guarded_tf, C.guarded_ft, C.guarded_undef, Bool.not_true, Bool.not_false, Nat.zero_add, eq_self, decide_true, decide_false, e]
      refine C.storeAt_own ho (by omega) (by rw [boolC_len, tab_len]; omega) rfl (by intro u hu; simp [Value.cells] at hu; subst hu; rfl) fun w2 ho2 hf2 _ => nx w2 (hf.then hf2 fun g hg => .inr (hnf.blk g hg)) (hc.keep' hf2 hd) ?_
      rw [Int.toNat_natCast] at ho2
      rw [tab_congr (g := upd (fun j => G.fr r j || (decide (j < i) && decide (G.cnt (G.fr r) (j : Int) = 0))) i true) fun j hj => ?_]
      · rw [← tab_set, ← boolC_set]; exact ho2
      · rw [upd_ap]
        by_cases c : j = i
        · rw [if_pos c, c, decide_eq_true (by omega), decide_eq_true hz]; simp
        · rw [if_neg c, show decide (j < i + 1) = decide (j < i) from decide_eq_decide.2 (by omega)]
    · have e : ¬ ((G.cnt (G.fr r) (i : Int) : Int)) = 0 := by omega
      simp only [C.ite_true, C.ite_false, C.pick_true, C.pick_false, C.not_bool, C.field_ptr, C.nilCheck_ptr, C.add_mk, C.sub_mk, C.mul_mk, C.eql_mk, C.neq_mk, C.lss_mk, C.leq_mk, C.gtr_mk, C.geq_mk, C.conv_mk, C.len_mk, C.ext_0, C.ext_1, C.ext3_0, C.ext3_1, C.ext3_2, C.guarded_yes, C.guarded_tf, C.guarded_ft, C.guarded_undef, Bool.not_true, Bool.not_false, Nat.zero_add, eq_self, decide_true, decide_false, e]
      refine nx w hf hc ?_
      rw [tab_congr (g := fun j => G.fr r j || (decide (j < i) && decide (G.cnt (G.fr r) (j : Int) = 0))) fun j hj => ?_]
      · exact ho
      · by_cases c : j = i
        · rw [c, decide_eq_false hz]; simp
        · rw [show decide (j < i + 1) = decide (j < i) from decide_eq_decide.2 (by omega)]
theorem lfalls_loop {W1 : World} {G : Gr} {bg : Nat} {nv rv fv : Value} (hG : IsG W1 nv rv G) (hb : GBlk W1 bg 46 nv rv) (hnf : NewS W1 fv)
    (h : ∀ w', Fr [] W1 w' → OwnS w' fv 4 1 (boolC (tab G.n G.free)) → K fv w') :
    ∀ (d r : Nat) (w : World), G.n = r + d → Fr [] W1 w → OwnS w fv 4 1 (boolC (tab G.n (G.fr r))) → F46.l3 K (.pointer (some ⟨bg, 0, none⟩)) fv (.int .i64 (r : Int)) w := by
  have hfew := hG.few
  intro d
  induction d with
  | zero =>
    intro r w hr hf ho
    refine F46.l3.to (C.len_rd ho.rd ?_)
    rw [boolC_len, tab_len]
    simp only [C.ite_true, C.ite_false, C.pick_true, C.pick_false, C.not_bool, C.field_ptr, C.nilCheck_ptr, C.add_mk, C.sub_mk, C.mul_mk, C.eql_mk, C.neq_mk, C.lss_mk, C.leq_mk, C.gtr_mk, C.geq_mk, C.conv_mk, C.len_mk, C.ext_0, C.ext_1, C.ext3_0, C.ext3_1, C.ext3_2, C.guarded_yes, C.guarded_tf, C.guarded_ft, C.guarded_undef, Bool.not_true, Bool.not_false, Nat.zero_add, eq_self, decide_true, decide_false, show ¬ ((r : Int) < (G.n : Int)) by omega]
    obtain rfl : r = G.n := by omega
    exact F46.k11.to (h w hf ho)
  | succ d ih =>
    intro r w hr hf ho
    refine F46.l3.to (C.len_rd ho.rd ?_)
    rw [boolC_len, tab_len]
    simp only [C.ite_true, C.ite_false, C.pick_true, C.pick_false, C.not_bool, C.field_ptr, C.nilCheck_ptr, C.add_mk, C.sub_mk, C.mul_mk, C.eql_mk, C.neq_mk, C.lss_mk, C.leq_mk, C.gtr_mk, C.geq_mk, C.conv_mk, C.len_mk, C.ext_0, C.ext_1, C.ext3_0, C.ext3_1, C.ext3_2, C.guarded_yes, C.guarded_tf, C.guarded_ft, C.guarded_undef, Bool.not_true, Bool.not_false, Nat.zero_add, eq_self, decide_true, decide_false, show ((r : Int) < (G.n : Int)) by omega]
    refine F46.k5.to ((hb.keep hf (by simp)).all (lcounts_c (hG.keep hf) ho.rd fun cv w1 hf1 hn1 ho1 => ?_))
    have lf := ho.mem_lt
    refine lfalls_inner hfew hnf (fun g hg c => by have := hn1.blk g hg; have := lf g c; omega) (fun w' hf' ho' => F46.k4.to ?_) G.n 0 w1 (by omega) (hf.trans hf1) ho1.rd ?_
    · simp only [C.ite_true, C.ite_false, C.pick_true, C.pick_false, C.not_bool, C.field_ptr, C.nilCheck_ptr, C.add_mk, C.sub_mk, C.mul_mk, C.eql_mk, C.neq_mk, C.lss_mk, C.leq_mk, C.gtr_mk, C.geq_mk, C.conv_mk, C.len_mk, C.ext_0, C.ext_1, C.ext3_0, C.ext3_1, C.ext3_2, C.guarded_yes, C.guarded_tf, C.guarded_ft, C.guarded_undef, Bool.not_true, Bool.not_false, Nat.zero_add, eq_self, decide_true, decide_false]
      rw [wrap64_id (n := (r : Int) + 1) (by omega), show (r : Int) + 1 = ((r + 1 : Nat) : Int) by omega]
      exact ih (r + 1) w' (by omega) hf' ho'
    · rw [tab_congr (g := G.fr r) fun j _ => by simp]
      exact ho.keep hf1 (by simp)
theorem lfalls_c {nv rv : Value} {G : Gr} (hG : IsG w nv rv G) (h : ∀ v w', Fr [] w w' → NewS w v → OwnS w' v 4 1 (boolC (tab G.n G.free)) → K v w') : C.call Try.prog 46 #[.agg #[nv, rv]] w K := by
  refine F46.sh (GBlk.new hG fun b w1 hf1 hb1 hb hG1 => hb.next (hG1.len_next (C.makeB hG.few fun fv w2 hf2 hn2 _ ho2 => ?_)))
  exact lfalls_loop hG1 hb hn2 (fun w' hf' ho' => h fv w' (hf1.trans hf') (hn2.mono hf1.size) ho') G.n 0 w2 (by omega) hf2 ho2
theorem places_loop {W1 : World} {n : Nat} {fv : Value} {p : Nat → Bool} (hn : n ≤ 1000) (hd : RdS W1 fv 1 (boolC (tab n p))) (h : ∀ v w', Fr [] W1 w' → NewS W1 v → OwnS w' v 3 1 (intC (natC ((List.range n).filter p))) → K v w') :
    ∀ (d i : Nat) (v : Value) (w : World), n = i + d → Fr [] W1 w → NewS W1 v → OwnS w v 3 1 (intC (natC ((List.range i).filter p))) → F45.l3 K fv v (.int .i64 (i : Int)) w := by
  intro d
  induction d with
  | zero =>
    intro i v w hi hf hn' ho
    refine F45.l3.to (C.len_rd (hd.keep hf) ?_)
    rw [boolC_len, tab_len]
    simp only [C.ite_true, C.ite_false, C.pick_true, C.pick_false, C.not_bool, C.field_ptr, C.nilCheck_ptr, C.add_mk, C.sub_mk, C.mul_mk, C.eql_mk, C.neq_mk, C.lss_mk, C.leq_mk, C.gtr_mk, C.geq_mk, C.conv_mk, C.len_mk, C.ext_0, C.ext_1, C.ext3_0, C.ext3_1, C.ext3_2, C.guarded_yes, C.guarded_tf, C.guarded_ft, C.guarded_undef, Bool.not_true, Bool.not_false, Nat.zero_add, eq_self, decide_true, decide_false, show ¬ ((i : Int) < (n : Int)) by omega]
    refine F45.k7.to (h v w hf hn' ?_)
    rw [hi]; exact ho
  | succ d ih =>
    intro i v w hi hf hn' ho
    refine F45.l3.to (C.len_rd (hd.keep hf) ?_)
    rw [boolC_len, tab_len]
    simp only [C.ite_true, C.ite_false, C.pick_true, C.pick_false, C.not_bool, C.field_ptr, C.nilCheck_ptr, C.add_mk, C.sub_mk, C.mul_mk, C.eql_mk, C.neq_mk, C.lss_mk, C.leq_mk, C.gtr_mk, C.geq_mk, C.conv_mk, C.len_mk, C.ext_0, C.ext_1, C.ext3_0, C.ext3_1, C.ext3_2, C.guarded_yes, C.guarded_tf, C.guarded_ft, C.guarded_undef, Bool.not_true, Bool.not_false, Nat.zero_add, eq_self, decide_true, decide_false, show ((i : Int) < (n : Int)) by omega]
    have hs := filter_range_succ p i
    have hlen : (natC ((List.range i).filter p)).length ≤ i := by rw [natC_len]; exact Nat.le_trans (List.length_filter_le _ _) (by simp)
    have nx : ∀ v' w', Fr [] W1 w' → NewS W1 v' → OwnS w' v' 3 1 (intC (natC ((List.range (i + 1)).filter p))) → F45.k4 K fv v' (.int .i64 (i : Int)) w' := by
      intro v' w' a b c
      refine F45.k4.to ?_
      simp only [C.ite_true, C.ite_false, C.pick_true, C.pick_false, C.not_bool, C.field_ptr, C.nilCheck_ptr, C.add_mk, C.sub_mk, C.mul_mk, C.eql_mk, C.neq_mk, C.lss_mk, C.leq_mk, C.gtr_mk, C.geq_mk, C.conv_mk, C.len_mk, C.ext_0, C.ext_1, C.ext3_0, C.ext3_1, C.ext3_2, C.guarded_yes, C.guarded_tf, C.guarded_ft, C.guarded_undef, Bool.not_true, Bool.not_false, Nat.zero_add, eq_self, decide_true, decide_false]
      rw [wrap64_id (n := (i : Int) + 1) (by omega), show (i : Int) + 1 = ((i + 1 : Nat) : Int) by omega]
      exact ih (i + 1) v' w' (by omega) a b c
    refine F45.k5.to (C.idx_bool (hd.keep hf) (by rw [tab_len]; omega) fun g o cs e fz hg hc => C.load1_of hg hc ?_)
    rw [tab_get]
    cases hp : p i with
    | true =>
      simp only [C.ite_true, C.ite_false, C.pick_true, C.pick_false, C.not_bool, C.field_ptr, C.nilCheck_ptr, C.add_mk, C.sub_mk, C.mul_mk, C.eql_mk, C.neq_mk, C.lss_mk, C.leq_mk, C.gtr_mk, C.geq_mk, C.conv_mk, C.len_mk, C.ext_0, C.ext_1, C.ext3_0, C.ext3_1, C.ext3_2, C.guarded_yes, C.guarded_tf, C.guarded_ft, C.guarded_undef, Bool.not_true, Bool.not_false, Nat.zero_add, eq_self, decide_true, decide_false]
      refine C.appInt hf hn' ho (by omega) fun v' w' hf' hn'' ho' _ => nx v' w' hf' hn'' ?_
      rw [hs, if_pos hp, natC_app]
      exact ho'
    | false =>
      simp only [C.ite_true, C.ite_false, C.pick_true, C.pick_false, C.not_bool, C.field_ptr, C.nilCheck_ptr, C.add_mk, C.sub_mk, C.mul_mk, C.eql_mk, C.neq_mk, C.lss_mk, C.leq_mk, C.gtr_mk, C.geq_mk, C.conv_mk, C.len_mk, C.ext_0, C.ext_1, C.ext3_0, C.ext3_1, C.ext3_2, C.guarded_yes, C.guarded_tf, C.guarded_ft, C.guarded_undef, Bool.not_true, Bool.not_false, Nat.zero_add, eq_self, decide_true, decide_false]
      refine nx v w hf hn' ?_
      rw [hs, if_neg (by simp [hp]), List.append_nil]
      exact ho
theorem places_c {n : Nat} {fv : Value} {p : Nat → Bool} (hn : n ≤ 1000) (hd : RdS w fv 1 (boolC (tab n p))) (h : ∀ v w', Fr [] w w' → NewS w v → OwnS w' v 3 1 (intC (natC ((List.range n).filter p))) → K v w') : C.call Try.prog 45 #[fv] w K := by
  refine F45.sh ?_
  exact places_loop hn hd h n 0 _ w (by omega) (Fr.refl _ _) (NewS.nil _) (OwnS.nil _ _ _)
end
end Go.Proofs.YtfhgjncbhjjbfaaV
