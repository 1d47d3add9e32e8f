/- Layer 35, the lists told, and the statements' own: what the calls come to. -/
import Derived.Test.YtchonfdnghimdaaRf6
namespace Go.Proofs.YtchonfdnghimdaaV
open Go Go.Proofs Go.RowKit
set_option linter.unusedVariables false
set_option linter.unusedSimpArgs false
set_option maxRecDepth 10000
section
variable {K : VK} {w : World}
theorem falls_loop {W1 : World} {n : Nat} {fv : Value} {p : Nat → Bool} (hn : n ≤ 1000) (hd : RdS W1 fv 1 (boolC (tab n p))) (h : ∀ v w', Fr [] W1 w' → NewS W1 v → OwnS w' v 3 1 (intC (natC ((List.range n).filter p))) → K v w') :
    ∀ (d i : Nat) (v : Value) (w : World), n = i + d → Fr [] W1 w → NewS W1 v → OwnS w v 3 1 (intC (natC ((List.range i).filter p))) → F35.l3 K v fv (.int .i64 (n : Int)) (.int .i64 (i : Int)) w := by
  intro d
  induction d with
  | zero =>
    intro i v w hi hf hn' ho
    refine F35.l3.to ?_
    simp only [C.ite_true, C.ite_false, C.pick_true, C.pick_false, C.not_bool, C.field_ptr, C.nilCheck_ptr, C.add_mk, C.sub_mk, C.mul_mk, C.eql_mk, C.neq_mk, C.lss_mk, C.leq_mk, C.gtr_mk, C.geq_mk, C.conv_mk, C.len_mk, C.ext_0, C.ext_1, C.ext3_0, C.ext3_1, C.ext3_2, C.guarded_yes, C.guarded_tf, C.guarded_ft, C.guarded_undef, Bool.not_true, Bool.not_false, Nat.zero_add, eq_self, decide_true, decide_false, show ¬ ((i : Int) < (n : Int)) by omega]
    refine F35.k8.to (h v w hf hn' ?_)
    rw [hi]; exact ho
  | succ d ih =>
    intro i v w hi hf hn' ho
    refine F35.l3.to ?_
    simp only [C.ite_true, C.ite_false, C.pick_true, C.pick_false, C.not_bool, C.field_ptr, C.nilCheck_ptr, C.add_mk, C.sub_mk, C.mul_mk, C.eql_mk, C.neq_mk, C.lss_mk, C.leq_mk, C.gtr_mk, C.geq_mk, C.conv_mk, C.len_mk, C.ext_0, C.ext_1, C.ext3_0, C.ext3_1, C.ext3_2, C.guarded_yes, C.guarded_tf, C.guarded_ft, C.guarded_undef, Bool.not_true, Bool.not_false, Nat.zero_add, eq_self, decide_true, decide_false, show ((i : Int) < (n : Int)) by omega]
    have hs := filter_range_succ p i
    have hlen : (natC ((List.range i).filter p)).length ≤ i := by rw [natC_len]; exact Nat.le_trans (List.length_filter_le _ _) (by simp)
    have nx : ∀ v' w', Fr [] W1 w' → NewS W1 v' → OwnS w' v' 3 1 (intC (natC ((List.range (i + 1)).filter p))) → F35.k7 K v' fv (.int .i64 (n : Int)) (.int .i64 (i : Int)) w' := by
      intro v' w' a b c
      refine F35.k7.to ?_
      simp only [C.ite_true, C.ite_false, C.pick_true, C.pick_false, C.not_bool, C.field_ptr, C.nilCheck_ptr, C.add_mk, C.sub_mk, C.mul_mk, C.eql_mk, C.neq_mk, C.lss_mk, C.leq_mk, C.gtr_mk, C.geq_mk, C.conv_mk, C.len_mk, C.ext_0, C.ext_1, C.ext3_0, C.ext3_1, C.ext3_2, C.guarded_yes, C.guarded_tf, C.guarded_ft, C.guarded_undef, Bool.not_true, Bool.not_false, Nat.zero_add, eq_self, decide_true, decide_false]
      rw [wrap64_id (n := (i : Int) + 1) (by omega), show (i : Int) + 1 = ((i + 1 : Nat) : Int) by omega]
      exact ih (i + 1) v' w' (by omega) a b c
    refine F35.k4.to (C.idx_boolR (hd.keep hf) (by rw [tab_len]; omega) fun g o cs e fz hg hc => C.load1_of hg hc ?_)
    rw [tab_get]
    cases hp : p i with
    | true =>
      simp only [C.ite_true, C.ite_false, C.pick_true, C.pick_false, C.not_bool, C.field_ptr, C.nilCheck_ptr, C.add_mk, C.sub_mk, C.mul_mk, C.eql_mk, C.neq_mk, C.lss_mk, C.leq_mk, C.gtr_mk, C.geq_mk, C.conv_mk, C.len_mk, C.ext_0, C.ext_1, C.ext3_0, C.ext3_1, C.ext3_2, C.guarded_yes, C.guarded_tf, C.guarded_ft, C.guarded_undef, Bool.not_true, Bool.not_false, Nat.zero_add, eq_self, decide_true, decide_false]
      refine C.appInt hf hn' ho (by omega) fun v' w' hf' hn'' ho' _ => nx v' w' hf' hn'' ?_
      rw [hs, if_pos hp, natC_app]
      exact ho'
    | false =>
      simp only [C.ite_true, C.ite_false, C.pick_true, C.pick_false, C.not_bool, C.field_ptr, C.nilCheck_ptr, C.add_mk, C.sub_mk, C.mul_mk, C.eql_mk, C.neq_mk, C.lss_mk, C.leq_mk, C.gtr_mk, C.geq_mk, C.conv_mk, C.len_mk, C.ext_0, C.ext_1, C.ext3_0, C.ext3_1, C.ext3_2, C.guarded_yes, C.guarded_tf, C.guarded_ft, C.guarded_undef, Bool.not_true, Bool.not_false, Nat.zero_add, eq_self, decide_true, decide_false]
      refine nx v w hf hn' ?_
      rw [hs, if_neg (by simp [hp]), List.append_nil]
      exact ho
theorem Falls_c {nv rv : Value} {G : Gr} (hG : IsG w nv rv G) (h : ∀ v w', Fr [] w w' → NewS w v → OwnS w' v 3 1 (intC (natC G.freeL)) → K v w') : C.call Try.prog 35 #[.agg #[nv, rv]] w K := by
  refine F35.sh (GBlk.new hG fun b w1 hf1 hb1 hb hG1 => hb.all (pfalls_c hG1 fun fv w2 hf2 hn2 ho2 => C.len_rd ho2.rd ?_))
  rw [boolC_len, tab_len]
  exact falls_loop hG.few ho2.rd (fun v w' hf hn ho => h v w' ((hf1.trans hf2).trans hf) (hn.mono (hf1.trans hf2).size) ho) G.n 0 _ w2 (by omega) (Fr.refl _ _) (NewS.nil _) (OwnS.nil _ _ _)
theorem Leaks_c {nv rv : Value} {G : Gr} (hG : IsG w nv rv G) (h : ∀ v w', Fr [] w w' → NewS w v → OwnS w' v 3 1 (intC (natC G.leakL)) → K v w') : C.call Try.prog 19 #[.agg #[nv, rv]] w K := by
  refine F19.sh (GBlk.new hG fun b w1 hf1 hb1 hb hG1 => hb.all (pfalls_c hG1 fun fv w2 hf2 hn2 ho2 => C.new_of fun b3 w3 hw3 => C.store1_of hw3.at_ ho2.one.2 ho2.one.1 (by simp) fun w4 hu => ?_))
  have e3 := hw3.is
  have l2 := ho2.mem_lt
  have s2 := hf2.size
  have f14 : Fr [] w1 w4 := (hf2.trans hw3.fr).then hu.fr fun x hx => .inr (by simp only [List.mem_singleton] at hx; omega)
  have ho4 := (ho2.keep hw3.fr (by simp)).keep' hu.fr fun g hg c => by simp only [List.mem_singleton] at c; have := l2 g hg; omega
  have lb4 := lt_of_at hu.at_
  refine (hb.keep f14 (by simp)).all (Dead_c (hG1.keep f14) fun dv w5 hf5 hn5 ho5 => ?_)
  refine DeleteFunc_c (p := fun n => G.fre n.toNat) ho5 (fun w' n K' hf' hmem hk => ?_) fun v' w' hf' ho' hblk => h v' w' (((hf1.trans f14).trans hf5).then hf' fun x hx => .inr (by have := hn5.blk x hx; have := (hf1.trans f14).size; omega)) (fun g hg => by have := hn5 g (by rw [← hblk]; exact hg); have := (hf1.trans f14).size; omega) ?_
  · obtain ⟨r, hr, rfl⟩ := natC_mem.1 hmem
    have hrn : r < G.n := List.mem_range.1 (List.mem_filter.1 hr).1
    have l4 := ho4.mem_lt
    have q1 := hf'.at_ (hf5.at_ hu.at_ (by simp)) fun c => by have := hn5.blk _ c; omega
    refine vcCall_ofR bodied80 (F39.sh (C.load1_of (v := fv) q1 rfl (C.idx_boolR ((ho4.keep hf5 (by simp)).keep' hf' fun g hg c => by have := hn5.blk _ c; have := l4 g hg; omega).rd (by rw [tab_len]; exact hrn) fun g o cs e fz hg hc => C.load1_of hg hc ?_)))
    rw [tab_get]
    exact hk w' (Fr.refl _ _)
  · have e : (natC G.dead).filter (fun n => !G.fre n.toNat) = natC G.leakL := by
      unfold natC Gr.dead Gr.leakL
      rw [List.filter_map, List.filter_filter]
      congr 1
      refine List.filter_congr fun j _ => ?_
      simp only [Function.comp, Int.toNat_natCast]
      rw [Bool.and_comm]
    rw [← e]
    exact ho'
end
end Go.Proofs.YtchonfdnghimdaaV
