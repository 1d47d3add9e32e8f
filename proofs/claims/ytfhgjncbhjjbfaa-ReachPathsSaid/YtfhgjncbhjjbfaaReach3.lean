/- The statements of layer 33: what each call comes to. -/
import Derived.Test.YtfhgjncbhjjbfaaReach2
namespace Go.Proofs.YtfhgjncbhjjbfaaV
open Go Go.Proofs Go.RowKit
set_option linter.unusedVariables false
set_option linter.unusedSimpArgs false
set_option maxRecDepth 10000
def gB : Gr := ⟨[[0], [2], []], [1]⟩
theorem gB1 : natC gB.nodes = [1, 2] := by decide +kernel
theorem gB2 : natC gB.dead = [0] := by decide +kernel
theorem gB3 : gB.distL = [-1, 0, 1] := by decide +kernel
theorem gB4 : natC (if 0 ≤ (2 : Int) ∧ (2 : Int) < (gB.n : Int) ∧ 0 ≤ gB.dst (2 : Int).toNat then gB.way (2 : Int).toNat else []) = [1, 2] := by decide +kernel
theorem gB5 : (gB.wo 1).nodes.length = 0 := by decide +kernel
section
variable {K : VK} {w : World}
theorem alive33_c (h : ∀ w', Fr [] w w' → K (.bool true) w') : C.call Try.prog 31 #[] w K := by
  refine F31.sh (C.litI fun s1 w1 hf1 hr1 => C.litI fun s2 w2 hf2 hr2 => ?_)
  refine C.litS3 (hr1.keep hf2) hr2 (OwnS.nil w2 3 1).rd (z := []) fun nv w4 hf4 hn4 => C.litI fun rv w5 hf5 hr5 => ?_
  have hG : IsG w5 nv rv gB := ⟨hn4.keep hf5, hr5, by decide, by decide, by decide⟩
  refine C.mkG hG fun b w6 hf6 hb6 hb hG6 => ?_
  have f06 : Fr [] w w6 := (((hf1.trans hf2).trans hf4).trans hf5).trans hf6
  refine hb.all (Nodes_c hG6 fun v w7 hf7 hn7 ho7 => C.litI2 fun u w8 hf8 hr8 => Ints_c (ho7.rd.keep hf8) hr8 fun w9 hf9 => ?_)
  have f69 := (hf7.trans hf8).trans hf9
  rw [decide_eq_true gB1]
  simp only [C.ite_true, C.ite_false, C.pick_true, C.pick_false, C.not_bool, C.field_ptr, C.nilCheck_ptr, C.add_mk, C.sub_mk, C.mul_mk, C.eql_mk, C.neq_mk, C.lss_mk, C.leq_mk, C.gtr_mk, C.geq_mk, C.conv_mk, C.len_mk, C.ext_0, C.ext_1, C.ext3_0, C.ext3_1, C.ext3_2, C.guarded_yes, C.guarded_tf, C.guarded_ft, C.guarded_undef, Bool.not_true, Bool.not_false, Nat.zero_add, eq_self, decide_true, decide_false]
  refine (hb.keep f69 (by simp)).all (Dead_c (hG6.keep f69) fun v w7 hf7 hn7 ho7 => C.litI fun u w8 hf8 hr8 => Ints_c (ho7.rd.keep hf8) hr8 fun w10 hf10 => ?_)
  have f610 := ((f69.trans hf7).trans hf8).trans hf10
  rw [decide_eq_true gB2]
  simp only [C.ite_true, C.ite_false, C.pick_true, C.pick_false, C.not_bool, C.field_ptr, C.nilCheck_ptr, C.add_mk, C.sub_mk, C.mul_mk, C.eql_mk, C.neq_mk, C.lss_mk, C.leq_mk, C.gtr_mk, C.geq_mk, C.conv_mk, C.len_mk, C.ext_0, C.ext_1, C.ext3_0, C.ext3_1, C.ext3_2, C.guarded_yes, C.guarded_tf, C.guarded_ft, C.guarded_undef, Bool.not_true, Bool.not_false, Nat.zero_add, eq_self, decide_true, decide_false]
  refine (hb.keep f610 (by simp)).all (Dist_c (hG6.keep f610) fun v w7 hf7 hn7 ho7 => C.litI3 fun u w8 hf8 hr8 => Ints_c (ho7.rd.keep hf8) hr8 fun w11 hf11 => ?_)
  have f611 := ((f610.trans hf7).trans hf8).trans hf11
  rw [decide_eq_true gB3]
  simp only [C.ite_true, C.ite_false, C.pick_true, C.pick_false, C.not_bool, C.field_ptr, C.nilCheck_ptr, C.add_mk, C.sub_mk, C.mul_mk, C.eql_mk, C.neq_mk, C.lss_mk, C.leq_mk, C.gtr_mk, C.geq_mk, C.conv_mk, C.len_mk, C.ext_0, C.ext_1, C.ext3_0, C.ext3_1, C.ext3_2, C.guarded_yes, C.guarded_tf, C.guarded_ft, C.guarded_undef, Bool.not_true, Bool.not_false, Nat.zero_add, eq_self, decide_true, decide_false]
  refine (hb.keep f611 (by simp)).all (Path_c (hG6.keep f611) fun v w7 hf7 hn7 ho7 => C.litI2 fun u w8 hf8 hr8 => Ints_c (ho7.rd.keep hf8) hr8 fun w12 hf12 => ?_)
  have f612 := ((f611.trans hf7).trans hf8).trans hf12
  rw [decide_eq_true gB4]
  simp only [C.ite_true, C.ite_false, C.pick_true, C.pick_false, C.not_bool, C.field_ptr, C.nilCheck_ptr, C.add_mk, C.sub_mk, C.mul_mk, C.eql_mk, C.neq_mk, C.lss_mk, C.leq_mk, C.gtr_mk, C.geq_mk, C.conv_mk, C.len_mk, C.ext_0, C.ext_1, C.ext3_0, C.ext3_1, C.ext3_2, C.guarded_yes, C.guarded_tf, C.guarded_ft, C.guarded_undef, Bool.not_true, Bool.not_false, Nat.zero_add, eq_self, decide_true, decide_false]
  refine (hb.keep f612 (by simp)).all (Without_c (hG6.keep f612) fun nv' rv' w7 hf7 hG7 => Nodes_c hG7 fun v w13 hf13 hn13 ho13 => C.len_rd ho13.rd ?_)
  have f613 := (f612.trans hf7).trans hf13
  rw [intC_len, natC_len, gB5]
  have e0 : ((0 : Nat) : Int) = 0 := rfl
  simp only [C.ite_true, C.ite_false, C.pick_true, C.pick_false, C.not_bool, C.field_ptr, C.nilCheck_ptr, C.add_mk, C.sub_mk, C.mul_mk, C.eql_mk, C.neq_mk, C.lss_mk, C.leq_mk, C.gtr_mk, C.geq_mk, C.conv_mk, C.len_mk, C.ext_0, C.ext_1, C.ext3_0, C.ext3_1, C.ext3_2, C.guarded_yes, C.guarded_tf, C.guarded_ft, C.guarded_undef, Bool.not_true, Bool.not_false, Nat.zero_add, eq_self, decide_true, decide_false, e0]
  refine (hb.keep f613 (by simp)).all (Back_c (hG6.keep f613) fun bv w14 hf14 hr14 hs14 => ?_)
  obtain ⟨A, c, rfl⟩ := hs14
  have e3 : ((gB.n : Nat) : Int) = 3 := rfl
  simp only [C.ite_true, C.ite_false, C.pick_true, C.pick_false, C.not_bool, C.field_ptr, C.nilCheck_ptr, C.add_mk, C.sub_mk, C.mul_mk, C.eql_mk, C.neq_mk, C.lss_mk, C.leq_mk, C.gtr_mk, C.geq_mk, C.conv_mk, C.len_mk, C.ext_0, C.ext_1, C.ext3_0, C.ext3_1, C.ext3_2, C.guarded_yes, C.guarded_tf, C.guarded_ft, C.guarded_undef, Bool.not_true, Bool.not_false, Nat.zero_add, eq_self, decide_true, decide_false, e3]
  exact h w14 ((f06.trans f613).trans hf14)
theorem tells33_end {W1 : World} {G : Gr} {b : Nat} {nv rv dv lv xv : Value} (hG : IsG W1 nv rv G) (hb : GBlk W1 b 46 nv rv) (hd : RdS w dv 1 (intC G.distL)) (hl : RdS w lv 1 (intC (natC G.nodes))) (hx : RdS w xv 1 (intC (natC G.dead))) (hf : Fr [] W1 w) (h : ∀ w', Fr [] w w' → K (.bool true) w') :
    F9.k12 K (.pointer (some ⟨b, 0, none⟩)) dv lv xv w := by
  refine F9.k12.to ((hb.keep hf (by simp)).all (Dist_c (hG.keep hf) fun v w1 hf1 hn1 ho1 => Ints_c ho1.rd (hd.keep hf1) fun w2 hf2 => ?_))
  have f2 := hf1.trans hf2
  rw [decide_eq_true rfl]
  try simp only [C.ite_true, C.ite_false, C.pick_true, C.pick_false, C.not_bool, C.field_ptr, C.nilCheck_ptr, C.add_mk, C.sub_mk, C.mul_mk, C.eql_mk, C.neq_mk, C.lss_mk, C.leq_mk, C.gtr_mk, C.geq_mk, C.conv_mk, C.len_mk, C.ext_0, C.ext_1, C.ext3_0, C.ext3_1, C.ext3_2, C.guarded_yes, C.guarded_tf, C.guarded_ft, C.guarded_undef, Bool.not_true, Bool.not_false, Nat.zero_add, eq_self, decide_true, decide_false]
  refine (hb.keep (hf.trans f2) (by simp)).all (Nodes_c (hG.keep (hf.trans f2)) fun v w3 hf3 hn3 ho3 => ?_)
  try simp only [C.ite_true, C.ite_false, C.pick_true, C.pick_false, C.not_bool, C.field_ptr, C.nilCheck_ptr, C.add_mk, C.sub_mk, C.mul_mk, C.eql_mk, C.neq_mk, C.lss_mk, C.leq_mk, C.gtr_mk, C.geq_mk, C.conv_mk, C.len_mk, C.ext_0, C.ext_1, C.ext3_0, C.ext3_1, C.ext3_2, C.guarded_yes, C.guarded_tf, C.guarded_ft, C.guarded_undef, Bool.not_true, Bool.not_false, Nat.zero_add, eq_self, decide_true, decide_false]
  refine Ints_c ho3.rd (hl.keep (f2.trans hf3)) fun w4 hf4 => ?_
  have f4 := (f2.trans hf3).trans hf4
  rw [decide_eq_true rfl]
  try simp only [C.ite_true, C.ite_false, C.pick_true, C.pick_false, C.not_bool, C.field_ptr, C.nilCheck_ptr, C.add_mk, C.sub_mk, C.mul_mk, C.eql_mk, C.neq_mk, C.lss_mk, C.leq_mk, C.gtr_mk, C.geq_mk, C.conv_mk, C.len_mk, C.ext_0, C.ext_1, C.ext3_0, C.ext3_1, C.ext3_2, C.guarded_yes, C.guarded_tf, C.guarded_ft, C.guarded_undef, Bool.not_true, Bool.not_false, Nat.zero_add, eq_self, decide_true, decide_false]
  refine (hb.keep (hf.trans f4) (by simp)).all (Dead_c (hG.keep (hf.trans f4)) fun v w5 hf5 hn5 ho5 => ?_)
  try simp only [C.ite_true, C.ite_false, C.pick_true, C.pick_false, C.not_bool, C.field_ptr, C.nilCheck_ptr, C.add_mk, C.sub_mk, C.mul_mk, C.eql_mk, C.neq_mk, C.lss_mk, C.leq_mk, C.gtr_mk, C.geq_mk, C.conv_mk, C.len_mk, C.ext_0, C.ext_1, C.ext3_0, C.ext3_1, C.ext3_2, C.guarded_yes, C.guarded_tf, C.guarded_ft, C.guarded_undef, Bool.not_true, Bool.not_false, Nat.zero_add, eq_self, decide_true, decide_false]
  refine Ints_c ho5.rd (hx.keep (f4.trans hf5)) fun w6 hf6 => ?_
  rw [decide_eq_true rfl]
  try simp only [C.ite_true, C.ite_false, C.pick_true, C.pick_false, C.not_bool, C.field_ptr, C.nilCheck_ptr, C.add_mk, C.sub_mk, C.mul_mk, C.eql_mk, C.neq_mk, C.lss_mk, C.leq_mk, C.gtr_mk, C.geq_mk, C.conv_mk, C.len_mk, C.ext_0, C.ext_1, C.ext3_0, C.ext3_1, C.ext3_2, C.guarded_yes, C.guarded_tf, C.guarded_ft, C.guarded_undef, Bool.not_true, Bool.not_false, Nat.zero_add, eq_self, decide_true, decide_false]
  exact h w6 ((f4.trans hf5).trans hf6)
theorem tells33_loop {W1 : World} {G : Gr} {b : Nat} {nv rv dv : Value} (hG : IsG W1 nv rv G) (hb : GBlk W1 b 46 nv rv) (hd : RdS W1 dv 1 (intC G.distL)) (h : ∀ w', Fr [] W1 w' → K (.bool true) w') :
    ∀ (d i : Nat) (lv xv : Value) (w : World), G.n = i + d → Fr [] W1 w → NewS W1 lv → NewS W1 xv → (∀ g ∈ blkS lv, g ∉ blkS xv) → OwnS w lv 3 1 (intC (natC ((List.range i).filter fun j => G.rch j))) → OwnS w xv 3 1 (intC (natC ((List.range i).filter fun j => !G.rch j))) →
      F9.l7 K (.pointer (some ⟨b, 0, none⟩)) dv lv xv (.int .i64 (i : Int)) w := by
  have hfew := hG.few
  intro d
  induction d with
  | zero =>
    intro i lv xv w hi hf hnl hnx hlx hl hx
    refine F9.l7.to (C.len_rd (hd.keep hf) ?_)
    rw [intC_len, distL_len]
    simp only [C.ite_true, C.ite_false, C.pick_true, C.pick_false, C.not_bool, C.field_ptr, C.nilCheck_ptr, C.add_mk, C.sub_mk, C.mul_mk, C.eql_mk, C.neq_mk, C.lss_mk, C.leq_mk, C.gtr_mk, C.geq_mk, C.conv_mk, C.len_mk, C.ext_0, C.ext_1, C.ext3_0, C.ext3_1, C.ext3_2, C.guarded_yes, C.guarded_tf, C.guarded_ft, C.guarded_undef, Bool.not_true, Bool.not_false, Nat.zero_add, eq_self, decide_true, decide_false, show ¬ ((i : Int) < (G.n : Int)) by omega]
    obtain rfl : i = G.n := by omega
    exact tells33_end hG hb (hd.keep hf) hl.rd hx.rd hf fun w' hf' => h w' (hf.trans hf')
  | succ d ih =>
    intro i lv xv w hi hf hnl hnx hlx hl hx
    have hin : i < G.n := by omega
    refine F9.l7.to (C.len_rd (hd.keep hf) ?_)
    rw [intC_len, distL_len]
    simp only [C.ite_true, C.ite_false, C.pick_true, C.pick_false, C.not_bool, C.field_ptr, C.nilCheck_ptr, C.add_mk, C.sub_mk, C.mul_mk, C.eql_mk, C.neq_mk, C.lss_mk, C.leq_mk, C.gtr_mk, C.geq_mk, C.conv_mk, C.len_mk, C.ext_0, C.ext_1, C.ext3_0, C.ext3_1, C.ext3_2, C.guarded_yes, C.guarded_tf, C.guarded_ft, C.guarded_undef, Bool.not_true, Bool.not_false, Nat.zero_add, eq_self, decide_true, decide_false, show ((i : Int) < (G.n : Int)) by omega]
    have s1 := filter_range_succ (fun j => G.rch j) i
    have s2 := filter_range_succ (fun j => !G.rch j) i
    have l1 : (natC ((List.range i).filter fun j => G.rch j)).length ≤ i := by rw [natC_len]; exact Nat.le_trans (List.length_filter_le _ _) (by simp)
    have l2 : (natC ((List.range i).filter fun j => !G.rch j)).length ≤ i := by rw [natC_len]; exact Nat.le_trans (List.length_filter_le _ _) (by simp)
    have nx : ∀ lv' xv' w', Fr [] W1 w' → NewS W1 lv' → NewS W1 xv' → (∀ g ∈ blkS lv', g ∉ blkS xv') → OwnS w' lv' 3 1 (intC (natC ((List.range (i + 1)).filter fun j => G.rch j))) → OwnS w' xv' 3 1 (intC (natC ((List.range (i + 1)).filter fun j => !G.rch j))) →
        F9.k8 K (.pointer (some ⟨b, 0, none⟩)) dv lv' xv' (.int .i64 (i : Int)) w' := by
      intro lv' xv' w' a1 a2 a3 a4 a5 a6
      refine F9.k8.to ?_
      simp only [C.ite_true, C.ite_false, C.pick_true, C.pick_false, C.not_bool, C.field_ptr, C.nilCheck_ptr, C.add_mk, C.sub_mk, C.mul_mk, C.eql_mk, C.neq_mk, C.lss_mk, C.leq_mk, C.gtr_mk, C.geq_mk, C.conv_mk, C.len_mk, C.ext_0, C.ext_1, C.ext3_0, C.ext3_1, C.ext3_2, C.guarded_yes, C.guarded_tf, C.guarded_ft, C.guarded_undef, Bool.not_true, Bool.not_false, Nat.zero_add, eq_self, decide_true, decide_false]
      rw [wrap64_id (n := (i : Int) + 1) (by omega), show (i : Int) + 1 = ((i + 1 : Nat) : Int) by omega]
      exact ih (i + 1) lv' xv' w' (by omega) a1 a2 a3 a4 a5 a6
    have new : ∀ {u u' : Value} {w' : World}, NewS W1 u → (u'.ownBlock = u.ownBlock ∨ ∃ g, u'.ownBlock = some g ∧ w.heap.size ≤ g) → NewS W1 u' := fun {u u' w'} hu hb g hg => by
      rcases hb with c | ⟨g', c, d⟩
      · exact hu g (by rw [← c]; exact hg)
      · rw [hg] at c
        simp only [Option.some.injEq] at c
        have := hf.size
        omega
    refine F9.k9.to (C.idx_int (hd.keep hf) (by rw [distL_len]; exact hin) fun g o cs e fz hg hc => C.load1_of hg hc ?_)
    rw [distL_get]
    by_cases hr : G.dst i < 0
    · have hrf : G.rch i = false := decide_eq_false (by omega)
      simp only [C.ite_true, C.ite_false, C.pick_true, C.pick_false, C.not_bool, C.field_ptr, C.nilCheck_ptr, C.add_mk, C.sub_mk, C.mul_mk, C.eql_mk, C.neq_mk, C.lss_mk, C.leq_mk, C.gtr_mk, C.geq_mk, C.conv_mk, C.len_mk, C.ext_0, C.ext_1, C.ext3_0, C.ext3_1, C.ext3_2, C.guarded_yes, C.guarded_tf, C.guarded_ft, C.guarded_undef, Bool.not_true, Bool.not_false, Nat.zero_add, eq_self, decide_true, decide_false, hr]
      refine C.appInt' hx (by omega) fun xv' w1 hf1 hb1 ho1 => nx lv xv' w1 (hf.then hf1 fun g hg => .inr (hnx.blk g hg)) hnl (new (w' := w1) hnx hb1) (fun g hg c => ?_) ?_ ?_
      · rw [mem_blkS] at c
        rcases hb1 with d | ⟨g', d, e⟩
        · exact hlx g hg (mem_blkS.2 (by rw [← d]; exact c))
        · rw [c] at d
          simp only [Option.some.injEq] at d
          have := hl.mem_lt g hg
          omega
      · rw [s1, hrf]
        simpa using hl.keep' hf1 hlx
      · rw [s2, hrf, if_pos (by rfl), natC_app]
        exact ho1
    · have hrt : G.rch i = true := decide_eq_true (by omega)
      simp only [C.ite_true, C.ite_false, C.pick_true, C.pick_false, C.not_bool, C.field_ptr, C.nilCheck_ptr, C.add_mk, C.sub_mk, C.mul_mk, C.eql_mk, C.neq_mk, C.lss_mk, C.leq_mk, C.gtr_mk, C.geq_mk, C.conv_mk, C.len_mk, C.ext_0, C.ext_1, C.ext3_0, C.ext3_1, C.ext3_2, C.guarded_yes, C.guarded_tf, C.guarded_ft, C.guarded_undef, Bool.not_true, Bool.not_false, Nat.zero_add, eq_self, decide_true, decide_false, hr]
      refine C.appInt' hl (by omega) fun lv' w1 hf1 hb1 ho1 => nx lv' xv w1 (hf.then hf1 fun g hg => .inr (hnl.blk g hg)) (new (w' := w1) hnl hb1) hnx (fun g hg c => ?_) ?_ ?_
      · rw [mem_blkS] at hg
        rcases hb1 with d | ⟨g', d, e⟩
        · exact hlx g (mem_blkS.2 (by rw [← d]; exact hg)) c
        · rw [hg] at d
          simp only [Option.some.injEq] at d
          have := hx.mem_lt g c
          omega
      · rw [s1, hrt, if_pos rfl, natC_app]
        exact ho1
      · rw [s2, hrt]
        simpa using hx.keep' hf1 fun g hg c => hlx g c hg
theorem ReachTells_c {nv rv : Value} {G : Gr} (hG : IsG0 w nv rv G) (h : ∀ w', Fr [] w w' → K (.bool true) w') : C.call Try.prog 9 #[.agg #[nv, rv]] w K := by
  refine F9.sh (GBlk.new0 hG fun b w1 hf1 hb1 hb hG1 => alive33_c fun w2 hf2 => ?_)
  simp only [C.ite_true, C.ite_false, C.pick_true, C.pick_false, C.not_bool, C.field_ptr, C.nilCheck_ptr, C.add_mk, C.sub_mk, C.mul_mk, C.eql_mk, C.neq_mk, C.lss_mk, C.leq_mk, C.gtr_mk, C.geq_mk, C.conv_mk, C.len_mk, C.ext_0, C.ext_1, C.ext3_0, C.ext3_1, C.ext3_2, C.guarded_yes, C.guarded_tf, C.guarded_ft, C.guarded_undef, Bool.not_true, Bool.not_false, Nat.zero_add, eq_self, decide_true, decide_false]
  refine F9.k3.to ((hb.keep hf2 (by simp)).all (few33_c hG (hf1.trans hf2) fun nv' w3 hf3 hG3 => GBlk.set (hb.keep (hf2.trans hf3) (by simp)) (hG3.keep ((hf1.trans hf2).trans hf3)) fun w4 hu => ?_))
  have f04 : Fr [] w w4 := ((hf1.trans hf2).trans hf3).then hu.fr fun x hx => .inr (by simp only [List.mem_singleton] at hx; omega)
  have hG4 := hG3.keep f04
  have hb4 : GBlk w4 b 46 nv' rv := hu.at_
  generalize G.cut 24 = H at *
  refine hb4.all (plain33_c hG4 fun w5 hf5 hG5 => refDist_c hG5 fun dv w6 hf6 hn6 ho6 => ?_)
  have f46 := hf5.trans hf6
  exact tells33_loop (hG4.keep f46) (hb4.keep f46 (by simp)) ho6.rd (fun w' hf' => h w' ((f04.trans f46).trans hf')) H.n 0 _ _ w6 (by omega) (Fr.refl _ _) (NewS.nil _) (NewS.nil _) (fun g hg => by simp [blkS, Value.ownBlock] at hg) (OwnS.nil _ _ _) (OwnS.nil _ _ _)
/-! ### Paths -/
structure HP (W1 : World) (b : Nat) (nv rv dv pv : Value) (G : Gr) (i : Nat) : Prop where
  g : IsG W1 nv rv G
  b : GBlk W1 b 46 nv rv
  d : RdS W1 dv 1 (intC G.distL)
  p : RdS W1 pv 1 (intC (natC (G.way i)))
theorem way_ok {G : Gr} {i k : Nat} (hi : 0 ≤ G.dst i) (hk : k < (G.dst i).toNat) : ∀ (h1 : k < (natC (G.way i)).length) (h2 : k + 1 < (natC (G.way i)).length), ∃ a c : Nat, (natC (G.way i))[k] = (a : Int) ∧ (natC (G.way i))[k + 1] = (c : Int) ∧ a < G.n ∧ c < G.n ∧ G.dst a = (k : Int) ∧ G.edge a c = true ∧ ∀ j, j < a → ¬ (G.edge j c = true ∧ G.dst j = (k : Int)) := by
  intro h1 h2
  rw [natC_get, natC_get]
  have z := anc_dst (G := G) (i := i) ((G.dst i).toNat - (k + 1)) (by omega)
  obtain ⟨p1, p2, p3, p4⟩ := pred_ok (G := G) (j := G.anc ((G.dst i).toNat - (k + 1)) i) (by omega)
  have e : G.anc ((G.dst i).toNat - k) i = G.pred (G.anc ((G.dst i).toNat - (k + 1)) i) := by
    rw [show (G.dst i).toNat - k = ((G.dst i).toNat - (k + 1)) + 1 by omega]
    rfl
  refine ⟨_, _, rfl, rfl, ?_⟩
  rw [way_get, way_get, e]
  refine ⟨p1, dst_node (by omega), by omega, p2, fun j hj c => p4 j hj ⟨c.1, by omega⟩⟩
theorem paths_inner {W1 : World} {b i k a c : Nat} {nv rv dv pv : Value} {G : Gr} (hH : HP W1 b nv rv dv pv G i) (hk : k + 1 < (natC (G.way i)).length) (ha : (natC (G.way i))[k] = (a : Int)) (hc : (natC (G.way i))[k + 1] = (c : Int)) (han : a < G.n)
    (hno : ∀ j, j < a → ¬ (G.edge j c = true ∧ G.dst j = (k : Int))) (h : ∀ w', Fr [] W1 w' → F10.k11 K (.int .i64 (i : Int)) (.pointer (some ⟨b, 0, none⟩)) dv pv (.int .i64 (k : Int)) w') :
    ∀ (d j : Nat) (w : World), a = j + d → Fr [] W1 w → F10.l15 K (.int .i64 (i : Int)) (.pointer (some ⟨b, 0, none⟩)) dv pv (.int .i64 (k : Int)) (.int .i64 (j : Int)) w := by
  have hfew := hH.g.few
  have hl : (natC (G.way i)).length ≤ 1001 := by
    rw [natC_len, way_len]
    have := dst_lt (G := G) i
    omega
  intro d
  induction d with
  | zero =>
    intro j w hd hf
    refine F10.l15.to (C.idx_int (hH.p.keep hf) (by omega) fun g o cs e fz hg hcell => C.load1_of hg (by rw [hcell, ha]) ?_)
    simp only [C.ite_true, C.ite_false, C.pick_true, C.pick_false, C.not_bool, C.field_ptr, C.nilCheck_ptr, C.add_mk, C.sub_mk, C.mul_mk, C.eql_mk, C.neq_mk, C.lss_mk, C.leq_mk, C.gtr_mk, C.geq_mk, C.conv_mk, C.len_mk, C.ext_0, C.ext_1, C.ext3_0, C.ext3_1, C.ext3_2, C.guarded_yes, C.guarded_tf, C.guarded_ft, C.guarded_undef, Bool.not_true, Bool.not_false, Nat.zero_add, eq_self, decide_true, decide_false, show ¬ ((j : Int) < (a : Int)) by omega]
    exact h w hf
  | succ d ih =>
    intro j w hd hf
    have hja : j < a := by omega
    refine F10.l15.to (C.idx_int (hH.p.keep hf) (by omega) fun g o cs e fz hg hcell => C.load1_of hg (by rw [hcell, ha]) ?_)
    simp only [C.ite_true, C.ite_false, C.pick_true, C.pick_false, C.not_bool, C.field_ptr, C.nilCheck_ptr, C.add_mk, C.sub_mk, C.mul_mk, C.eql_mk, C.neq_mk, C.lss_mk, C.leq_mk, C.gtr_mk, C.geq_mk, C.conv_mk, C.len_mk, C.ext_0, C.ext_1, C.ext3_0, C.ext3_1, C.ext3_2, C.guarded_yes, C.guarded_tf, C.guarded_ft, C.guarded_undef, Bool.not_true, Bool.not_false, Nat.zero_add, eq_self, decide_true, decide_false, show ((j : Int) < (a : Int)) by omega]
    have nx : ∀ w', Fr [] W1 w' → F10.k16 K (.int .i64 (i : Int)) (.pointer (some ⟨b, 0, none⟩)) dv pv (.int .i64 (k : Int)) (.int .i64 (j : Int)) w' := by
      intro w' hf'
      refine F10.k16.to ?_
      simp only [C.ite_true, C.ite_false, C.pick_true, C.pick_false, C.not_bool, C.field_ptr, C.nilCheck_ptr, C.add_mk, C.sub_mk, C.mul_mk, C.eql_mk, C.neq_mk, C.lss_mk, C.leq_mk, C.gtr_mk, C.geq_mk, C.conv_mk, C.len_mk, C.ext_0, C.ext_1, C.ext3_0, C.ext3_1, C.ext3_2, C.guarded_yes, C.guarded_tf, C.guarded_ft, C.guarded_undef, Bool.not_true, Bool.not_false, Nat.zero_add, eq_self, decide_true, decide_false]
      rw [wrap64_id (n := (j : Int) + 1) (by omega), show (j : Int) + 1 = ((j + 1 : Nat) : Int) by omega]
      exact ih (j + 1) w' (by omega) hf'
    refine F10.k17.to (C.draw_of (fun w' => Fr [] W1 w') fun w1 hf1 he1 => ⟨hf.trans hf1, ?_⟩)
    have f1 := hf.trans hf1
    refine C.idx_intS (S := fun w' => Fr [] W1 w') (fun w' hw => hH.d.keep hw) f1 (by rw [distL_len]; omega) fun g o hs => C.load1S_of hs ?_
    rw [distL_get]
    by_cases hd2 : G.dst j = (k : Int)
    · simp only [C.ite_true, C.ite_false, C.pick_true, C.pick_false, C.not_bool, C.field_ptr, C.nilCheck_ptr, C.add_mk, C.sub_mk, C.mul_mk, C.eql_mk, C.neq_mk, C.lss_mk, C.leq_mk, C.gtr_mk, C.geq_mk, C.conv_mk, C.len_mk, C.ext_0, C.ext_1, C.ext3_0, C.ext3_1, C.ext3_2, C.guarded_yes, C.guarded_tf, C.guarded_ft, C.guarded_undef, Bool.not_true, Bool.not_false, Nat.zero_add, eq_self, decide_true, decide_false, hd2, and_true]
      rw [wrap64_id (n := (k : Int) + 1) (by omega), show (k : Int) + 1 = ((k + 1 : Nat) : Int) by omega]
      refine C.idx_intS (S := fun w' => Fr [] W1 w') (fun w' hw => hH.p.keep hw) f1 hk fun g o hs => ?_
      refine C.loadAS_of (vs := [nv, rv]) (fun w' hw => ⟨_, _, _, hH.b.keep hw (by simp), by simp, by simp⟩) (C.load1S_of hs ?_)
      rw [hc]
      refine plain33_c (hH.g.keep f1) fun w2 hf2 hG2 => ⟨f1.trans hf2, ?_⟩
      try simp only [C.ite_true, C.ite_false, C.pick_true, C.pick_false, C.not_bool, C.field_ptr, C.nilCheck_ptr, C.add_mk, C.sub_mk, C.mul_mk, C.eql_mk, C.neq_mk, C.lss_mk, C.leq_mk, C.gtr_mk, C.geq_mk, C.conv_mk, C.len_mk, C.ext_0, C.ext_1, C.ext3_0, C.ext3_1, C.ext3_2, C.guarded_yes, C.guarded_tf, C.guarded_ft, C.guarded_undef, Bool.not_true, Bool.not_false, Nat.zero_add, eq_self, decide_true, decide_false]
      refine Leads_c hG2 (by omega) fun w3 hf3 => ⟨(f1.trans hf2).trans hf3, ?_⟩
      have e : ¬ ((c : Int) ∈ G.row j) := fun e => hno j hja ⟨by simpa [Gr.edge] using e, hd2⟩
      simp only [C.ite_true, C.ite_false, C.pick_true, C.pick_false, C.not_bool, C.field_ptr, C.nilCheck_ptr, C.add_mk, C.sub_mk, C.mul_mk, C.eql_mk, C.neq_mk, C.lss_mk, C.leq_mk, C.gtr_mk, C.geq_mk, C.conv_mk, C.len_mk, C.ext_0, C.ext_1, C.ext3_0, C.ext3_1, C.ext3_2, C.guarded_yes, C.guarded_tf, C.guarded_ft, C.guarded_undef, Bool.not_true, Bool.not_false, Nat.zero_add, eq_self, decide_true, decide_false, e]
      exact nx w3 ((f1.trans hf2).trans hf3)
    · simp only [C.ite_true, C.ite_false, C.pick_true, C.pick_false, C.not_bool, C.field_ptr, C.nilCheck_ptr, C.add_mk, C.sub_mk, C.mul_mk, C.eql_mk, C.neq_mk, C.lss_mk, C.leq_mk, C.gtr_mk, C.geq_mk, C.conv_mk, C.len_mk, C.ext_0, C.ext_1, C.ext3_0, C.ext3_1, C.ext3_2, C.guarded_yes, C.guarded_tf, C.guarded_ft, C.guarded_undef, Bool.not_true, Bool.not_false, Nat.zero_add, eq_self, decide_true, decide_false, hd2, and_true]
      exact ⟨f1, f1, nx w1 f1⟩
theorem paths_loop {W1 : World} {b i : Nat} {nv rv dv pv : Value} {G : Gr} (hH : HP W1 b nv rv dv pv G i) (hi : 0 ≤ G.dst i) (h : ∀ w', Fr [] W1 w' → K (.bool true) w') :
    ∀ (d k : Nat) (w : World), (G.dst i).toNat = k + d → Fr [] W1 w → F10.l10 K (.int .i64 (i : Int)) (.pointer (some ⟨b, 0, none⟩)) dv pv (.int .i64 (k : Int)) w := by
  have hfew := hH.g.few
  have hin := dst_node hi
  have hlen : (natC (G.way i)).length = (G.dst i).toNat + 1 := by rw [natC_len, way_len]
  have hdl := dst_lt (G := G) i
  intro d
  induction d with
  | zero =>
    intro k w hd hf
    refine F10.l10.to (C.idx_int (hH.d.keep hf) (by rw [distL_len]; exact hin) fun g o cs e fz hg hc => C.load1_of hg hc ?_)
    rw [distL_get]
    simp only [C.ite_true, C.ite_false, C.pick_true, C.pick_false, C.not_bool, C.field_ptr, C.nilCheck_ptr, C.add_mk, C.sub_mk, C.mul_mk, C.eql_mk, C.neq_mk, C.lss_mk, C.leq_mk, C.gtr_mk, C.geq_mk, C.conv_mk, C.len_mk, C.ext_0, C.ext_1, C.ext3_0, C.ext3_1, C.ext3_2, C.guarded_yes, C.guarded_tf, C.guarded_ft, C.guarded_undef, Bool.not_true, Bool.not_false, Nat.zero_add, eq_self, decide_true, decide_false, show ¬ ((k : Int) < G.dst i) by omega]
    exact F10.k19.to (h w hf)
  | succ d ih =>
    intro k w hd hf
    have hk1 : k < (natC (G.way i)).length := by omega
    have hk2 : k + 1 < (natC (G.way i)).length := by omega
    obtain ⟨a, c, ha, hcv, han, hcn, hda, hac, hmin⟩ := way_ok hi (show k < (G.dst i).toNat by omega) hk1 hk2
    refine F10.l10.to (C.idx_int (hH.d.keep hf) (by rw [distL_len]; exact hin) fun g o cs e fz hg hc => C.load1_of hg hc ?_)
    rw [distL_get]
    simp only [C.ite_true, C.ite_false, C.pick_true, C.pick_false, C.not_bool, C.field_ptr, C.nilCheck_ptr, C.add_mk, C.sub_mk, C.mul_mk, C.eql_mk, C.neq_mk, C.lss_mk, C.leq_mk, C.gtr_mk, C.geq_mk, C.conv_mk, C.len_mk, C.ext_0, C.ext_1, C.ext3_0, C.ext3_1, C.ext3_2, C.guarded_yes, C.guarded_tf, C.guarded_ft, C.guarded_undef, Bool.not_true, Bool.not_false, Nat.zero_add, eq_self, decide_true, decide_false, show ((k : Int) < G.dst i) by omega]
    have nx : ∀ w', Fr [] W1 w' → F10.k11 K (.int .i64 (i : Int)) (.pointer (some ⟨b, 0, none⟩)) dv pv (.int .i64 (k : Int)) w' := by
      intro w' hf'
      refine F10.k11.to ?_
      simp only [C.ite_true, C.ite_false, C.pick_true, C.pick_false, C.not_bool, C.field_ptr, C.nilCheck_ptr, C.add_mk, C.sub_mk, C.mul_mk, C.eql_mk, C.neq_mk, C.lss_mk, C.leq_mk, C.gtr_mk, C.geq_mk, C.conv_mk, C.len_mk, C.ext_0, C.ext_1, C.ext3_0, C.ext3_1, C.ext3_2, C.guarded_yes, C.guarded_tf, C.guarded_ft, C.guarded_undef, Bool.not_true, Bool.not_false, Nat.zero_add, eq_self, decide_true, decide_false]
      rw [wrap64_id (n := (k : Int) + 1) (by omega), show (k : Int) + 1 = ((k + 1 : Nat) : Int) by omega]
      exact ih (k + 1) w' (by omega) hf'
    refine F10.k12.to (C.draw_of (fun w' => Fr [] W1 w') fun w1 hf1 he1 => ⟨hf.trans hf1, ?_⟩)
    have f1 := hf.trans hf1
    have P : ∀ (K : VK), (∀ g o, (∀ w', Fr [] W1 w' → ∃ cs e fz, w'.heap[g]? = some (.cells cs e fz) ∧ cs[o]? = some (.int .i64 (a : Int))) → K (.pointer (some ⟨g, o, none⟩)) w1) → C.idx 1 pv (.int .i64 (k : Int)) w1 K := fun K hK =>
      C.idx_intS (S := fun w' => Fr [] W1 w') (fun w' hw => hH.p.keep hw) f1 hk1 fun g o hs => hK g o fun w' hw => by rw [← ha]; exact hs w' hw
    refine P _ fun g o hs => C.load1S_of hs ?_
    simp only [C.ite_true, C.ite_false, C.pick_true, C.pick_false, C.not_bool, C.field_ptr, C.nilCheck_ptr, C.add_mk, C.sub_mk, C.mul_mk, C.eql_mk, C.neq_mk, C.lss_mk, C.leq_mk, C.gtr_mk, C.geq_mk, C.conv_mk, C.len_mk, C.ext_0, C.ext_1, C.ext3_0, C.ext3_1, C.ext3_2, C.guarded_yes, C.guarded_tf, C.guarded_ft, C.guarded_undef, Bool.not_true, Bool.not_false, Nat.zero_add, eq_self, decide_true, decide_false, show ¬ ((a : Int) < 0) by omega, and_true]
    refine P _ fun g o hs => C.len_rd (hH.d.keep f1) (C.load1S_of hs ?_)
    rw [intC_len, distL_len]
    simp only [C.ite_true, C.ite_false, C.pick_true, C.pick_false, C.not_bool, C.field_ptr, C.nilCheck_ptr, C.add_mk, C.sub_mk, C.mul_mk, C.eql_mk, C.neq_mk, C.lss_mk, C.leq_mk, C.gtr_mk, C.geq_mk, C.conv_mk, C.len_mk, C.ext_0, C.ext_1, C.ext3_0, C.ext3_1, C.ext3_2, C.guarded_yes, C.guarded_tf, C.guarded_ft, C.guarded_undef, Bool.not_true, Bool.not_false, Nat.zero_add, eq_self, decide_true, decide_false, show ¬ ((a : Int) ≥ (G.n : Int)) by omega]
    refine P _ fun g o hs => C.load1S_of hs ?_
    refine C.idx_intS (S := fun w' => Fr [] W1 w') (fun w' hw => hH.d.keep hw) f1 (by rw [distL_len]; exact han) fun g o hs => C.load1S_of hs ?_
    rw [distL_get, hda]
    have e : ¬ ((k : Int) ≠ (k : Int)) := by simp
    simp only [C.ite_true, C.ite_false, C.pick_true, C.pick_false, C.not_bool, C.field_ptr, C.nilCheck_ptr, C.add_mk, C.sub_mk, C.mul_mk, C.eql_mk, C.neq_mk, C.lss_mk, C.leq_mk, C.gtr_mk, C.geq_mk, C.conv_mk, C.len_mk, C.ext_0, C.ext_1, C.ext3_0, C.ext3_1, C.ext3_2, C.guarded_yes, C.guarded_tf, C.guarded_ft, C.guarded_undef, Bool.not_true, Bool.not_false, Nat.zero_add, eq_self, decide_true, decide_false, e]
    refine P _ fun g o hs => ?_
    try simp only [C.ite_true, C.ite_false, C.pick_true, C.pick_false, C.not_bool, C.field_ptr, C.nilCheck_ptr, C.add_mk, C.sub_mk, C.mul_mk, C.eql_mk, C.neq_mk, C.lss_mk, C.leq_mk, C.gtr_mk, C.geq_mk, C.conv_mk, C.len_mk, C.ext_0, C.ext_1, C.ext3_0, C.ext3_1, C.ext3_2, C.guarded_yes, C.guarded_tf, C.guarded_ft, C.guarded_undef, Bool.not_true, Bool.not_false, Nat.zero_add, eq_self, decide_true, decide_false]
    rw [wrap64_id (n := (k : Int) + 1) (by omega), show (k : Int) + 1 = ((k + 1 : Nat) : Int) by omega]
    refine C.idx_intS (S := fun w' => Fr [] W1 w') (fun w' hw => hH.p.keep hw) f1 hk2 fun g o hs2 => ?_
    refine C.loadAS_of (vs := [nv, rv]) (fun w' hw => ⟨_, _, _, hH.b.keep hw (by simp), by simp, by simp⟩) (C.load1S_of hs (C.load1S_of hs2 ?_))
    rw [hcv]
    refine plain33_c (hH.g.keep f1) fun w2 hf2 hG2 => ⟨f1.trans hf2, Leads_c hG2 han fun w3 hf3 => ⟨(f1.trans hf2).trans hf3, ?_⟩⟩
    have e : (c : Int) ∈ G.row a := by simpa [Gr.edge] using hac
    simp only [C.ite_true, C.ite_false, C.pick_true, C.pick_false, C.not_bool, C.field_ptr, C.nilCheck_ptr, C.add_mk, C.sub_mk, C.mul_mk, C.eql_mk, C.neq_mk, C.lss_mk, C.leq_mk, C.gtr_mk, C.geq_mk, C.conv_mk, C.len_mk, C.ext_0, C.ext_1, C.ext3_0, C.ext3_1, C.ext3_2, C.guarded_yes, C.guarded_tf, C.guarded_ft, C.guarded_undef, Bool.not_true, Bool.not_false, Nat.zero_add, eq_self, decide_true, decide_false, e]
    exact F10.k14.to (paths_inner hH hk2 ha hcv han hmin nx a 0 w3 (by omega) ((f1.trans hf2).trans hf3))
theorem ReachPaths_c {nv rv : Value} {G : Gr} {i : Int} (hG : IsG0 w nv rv G) (h : ∀ w', Fr [] w w' → K (.bool true) w') : C.call Try.prog 10 #[.agg #[nv, rv], .int .i64 i] w K := by
  refine F10.sh (GBlk.new0 hG fun b w1 hf1 hb1 hb hG1 => alive33_c fun w2 hf2 => ?_)
  simp only [C.ite_true, C.ite_false, C.pick_true, C.pick_false, C.not_bool, C.field_ptr, C.nilCheck_ptr, C.add_mk, C.sub_mk, C.mul_mk, C.eql_mk, C.neq_mk, C.lss_mk, C.leq_mk, C.gtr_mk, C.geq_mk, C.conv_mk, C.len_mk, C.ext_0, C.ext_1, C.ext3_0, C.ext3_1, C.ext3_2, C.guarded_yes, C.guarded_tf, C.guarded_ft, C.guarded_undef, Bool.not_true, Bool.not_false, Nat.zero_add, eq_self, decide_true, decide_false]
  refine F10.k3.to ((hb.keep hf2 (by simp)).all (few33_c hG (hf1.trans hf2) fun nv' w3 hf3 hG3 => GBlk.set (hb.keep (hf2.trans hf3) (by simp)) (hG3.keep ((hf1.trans hf2).trans hf3)) fun w4 hu => ?_))
  have f04 : Fr [] w w4 := ((hf1.trans hf2).trans hf3).then hu.fr fun x hx => .inr (by simp only [List.mem_singleton] at hx; omega)
  have hG4 := hG3.keep f04
  have hb4 : GBlk w4 b 46 nv' rv := hu.at_
  generalize G.cut 24 = H at *
  have hfew := hG4.few
  refine C.draw_of (fun w' => Fr [] w4 w') fun w5 hf5 he5 => ⟨hf5, ?_⟩
  simp only [and_true]
  refine C.loadAS_of (vs := [nv', rv]) (fun w' hw => ⟨_, _, _, hb4.keep hw (by simp), by simp, by simp⟩) ?_
  refine C.loadAS_of (vs := [nv', rv]) (fun w' hw => ⟨_, _, _, hb4.keep hw (by simp), by simp, by simp⟩) ?_
  refine plain33_c (hG4.keep hf5) fun w6 hf6 hG6 => ⟨hf5.trans hf6, refDist_c hG6 fun dv w7 hf7 hn7 ho7 => ⟨(hf5.trans hf6).trans hf7, Path_c (hG4.keep ((hf5.trans hf6).trans hf7)) fun pv w8 hf8 hn8 ho8 => ?_⟩⟩
  have f8 := ((hf5.trans hf6).trans hf7).trans hf8
  refine ⟨f8, ?_⟩
  have hd8 := ho7.keep hf8 (by simp)
  have none_ : ¬ (0 ≤ i ∧ i < (H.n : Int) ∧ 0 ≤ H.dst i.toNat) → C.len pv w8 fun x35 w22 => C.int .eql x35 (.int .i64 0) w22 fun x36 w23 => K x36 w23 := fun hc => by
    rw [if_neg hc] at ho8
    refine C.len_rd ho8.rd ?_
    have e0 : (((intC (natC [])).length : Nat) : Int) = 0 := rfl
    simp only [C.ite_true, C.ite_false, C.pick_true, C.pick_false, C.not_bool, C.field_ptr, C.nilCheck_ptr, C.add_mk, C.sub_mk, C.mul_mk, C.eql_mk, C.neq_mk, C.lss_mk, C.leq_mk, C.gtr_mk, C.geq_mk, C.conv_mk, C.len_mk, C.ext_0, C.ext_1, C.ext3_0, C.ext3_1, C.ext3_2, C.guarded_yes, C.guarded_tf, C.guarded_ft, C.guarded_undef, Bool.not_true, Bool.not_false, Nat.zero_add, eq_self, decide_true, decide_false, e0]
    exact h w8 (f04.trans f8)
  by_cases h0 : i < 0
  · simp only [C.ite_true, C.ite_false, C.pick_true, C.pick_false, C.not_bool, C.field_ptr, C.nilCheck_ptr, C.add_mk, C.sub_mk, C.mul_mk, C.eql_mk, C.neq_mk, C.lss_mk, C.leq_mk, C.gtr_mk, C.geq_mk, C.conv_mk, C.len_mk, C.ext_0, C.ext_1, C.ext3_0, C.ext3_1, C.ext3_2, C.guarded_yes, C.guarded_tf, C.guarded_ft, C.guarded_undef, Bool.not_true, Bool.not_false, Nat.zero_add, eq_self, decide_true, decide_false, h0]
    have := none_ (by omega)
    simpa only [C.ite_true, C.ite_false, C.pick_true, C.pick_false, C.not_bool, C.field_ptr, C.nilCheck_ptr, C.add_mk, C.sub_mk, C.mul_mk, C.eql_mk, C.neq_mk, C.lss_mk, C.leq_mk, C.gtr_mk, C.geq_mk, C.conv_mk, C.len_mk, C.ext_0, C.ext_1, C.ext3_0, C.ext3_1, C.ext3_2, C.guarded_yes, C.guarded_tf, C.guarded_ft, C.guarded_undef, Bool.not_true, Bool.not_false, Nat.zero_add, eq_self, decide_true, decide_false] using this
  by_cases h1 : i ≥ (H.n : Int)
  · simp only [C.ite_true, C.ite_false, C.pick_true, C.pick_false, C.not_bool, C.field_ptr, C.nilCheck_ptr, C.add_mk, C.sub_mk, C.mul_mk, C.eql_mk, C.neq_mk, C.lss_mk, C.leq_mk, C.gtr_mk, C.geq_mk, C.conv_mk, C.len_mk, C.ext_0, C.ext_1, C.ext3_0, C.ext3_1, C.ext3_2, C.guarded_yes, C.guarded_tf, C.guarded_ft, C.guarded_undef, Bool.not_true, Bool.not_false, Nat.zero_add, eq_self, decide_true, decide_false, h0]
    refine C.len_rd hd8.rd ?_
    rw [intC_len, distL_len]
    simp only [C.ite_true, C.ite_false, C.pick_true, C.pick_false, C.not_bool, C.field_ptr, C.nilCheck_ptr, C.add_mk, C.sub_mk, C.mul_mk, C.eql_mk, C.neq_mk, C.lss_mk, C.leq_mk, C.gtr_mk, C.geq_mk, C.conv_mk, C.len_mk, C.ext_0, C.ext_1, C.ext3_0, C.ext3_1, C.ext3_2, C.guarded_yes, C.guarded_tf, C.guarded_ft, C.guarded_undef, Bool.not_true, Bool.not_false, Nat.zero_add, eq_self, decide_true, decide_false, h1]
    have := none_ (by omega)
    simpa only [C.ite_true, C.ite_false, C.pick_true, C.pick_false, C.not_bool, C.field_ptr, C.nilCheck_ptr, C.add_mk, C.sub_mk, C.mul_mk, C.eql_mk, C.neq_mk, C.lss_mk, C.leq_mk, C.gtr_mk, C.geq_mk, C.conv_mk, C.len_mk, C.ext_0, C.ext_1, C.ext3_0, C.ext3_1, C.ext3_2, C.guarded_yes, C.guarded_tf, C.guarded_ft, C.guarded_undef, Bool.not_true, Bool.not_false, Nat.zero_add, eq_self, decide_true, decide_false] using this
  obtain ⟨m, rfl⟩ : ∃ m : Nat, i = (m : Int) := ⟨i.toNat, by omega⟩
  have hm : m < H.n := by omega
  simp only [C.ite_true, C.ite_false, C.pick_true, C.pick_false, C.not_bool, C.field_ptr, C.nilCheck_ptr, C.add_mk, C.sub_mk, C.mul_mk, C.eql_mk, C.neq_mk, C.lss_mk, C.leq_mk, C.gtr_mk, C.geq_mk, C.conv_mk, C.len_mk, C.ext_0, C.ext_1, C.ext3_0, C.ext3_1, C.ext3_2, C.guarded_yes, C.guarded_tf, C.guarded_ft, C.guarded_undef, Bool.not_true, Bool.not_false, Nat.zero_add, eq_self, decide_true, decide_false, h0]
  refine C.len_rd hd8.rd ?_
  rw [intC_len, distL_len]
  simp only [C.ite_true, C.ite_false, C.pick_true, C.pick_false, C.not_bool, C.field_ptr, C.nilCheck_ptr, C.add_mk, C.sub_mk, C.mul_mk, C.eql_mk, C.neq_mk, C.lss_mk, C.leq_mk, C.gtr_mk, C.geq_mk, C.conv_mk, C.len_mk, C.ext_0, C.ext_1, C.ext3_0, C.ext3_1, C.ext3_2, C.guarded_yes, C.guarded_tf, C.guarded_ft, C.guarded_undef, Bool.not_true, Bool.not_false, Nat.zero_add, eq_self, decide_true, decide_false, h1]
  refine C.idx_int hd8.rd (by rw [distL_len]; exact hm) fun g o cs e fz hg hc => C.load1_of hg hc ?_
  rw [distL_get]
  by_cases h2 : H.dst m < 0
  · simp only [C.ite_true, C.ite_false, C.pick_true, C.pick_false, C.not_bool, C.field_ptr, C.nilCheck_ptr, C.add_mk, C.sub_mk, C.mul_mk, C.eql_mk, C.neq_mk, C.lss_mk, C.leq_mk, C.gtr_mk, C.geq_mk, C.conv_mk, C.len_mk, C.ext_0, C.ext_1, C.ext3_0, C.ext3_1, C.ext3_2, C.guarded_yes, C.guarded_tf, C.guarded_ft, C.guarded_undef, Bool.not_true, Bool.not_false, Nat.zero_add, eq_self, decide_true, decide_false, h2]
    have := none_ (by rw [Int.toNat_natCast]; omega)
    simpa only [C.ite_true, C.ite_false, C.pick_true, C.pick_false, C.not_bool, C.field_ptr, C.nilCheck_ptr, C.add_mk, C.sub_mk, C.mul_mk, C.eql_mk, C.neq_mk, C.lss_mk, C.leq_mk, C.gtr_mk, C.geq_mk, C.conv_mk, C.len_mk, C.ext_0, C.ext_1, C.ext3_0, C.ext3_1, C.ext3_2, C.guarded_yes, C.guarded_tf, C.guarded_ft, C.guarded_undef, Bool.not_true, Bool.not_false, Nat.zero_add, eq_self, decide_true, decide_false] using this
  · have h2' : 0 ≤ H.dst m := by omega
    simp only [C.ite_true, C.ite_false, C.pick_true, C.pick_false, C.not_bool, C.field_ptr, C.nilCheck_ptr, C.add_mk, C.sub_mk, C.mul_mk, C.eql_mk, C.neq_mk, C.lss_mk, C.leq_mk, C.gtr_mk, C.geq_mk, C.conv_mk, C.len_mk, C.ext_0, C.ext_1, C.ext3_0, C.ext3_1, C.ext3_2, C.guarded_yes, C.guarded_tf, C.guarded_ft, C.guarded_undef, Bool.not_true, Bool.not_false, Nat.zero_add, eq_self, decide_true, decide_false, h2]
    rw [if_pos ⟨by omega, by omega, by rw [Int.toNat_natCast]; exact h2'⟩, Int.toNat_natCast] at ho8
    have hlen : (natC (H.way m)).length = (H.dst m).toNat + 1 := by rw [natC_len, way_len]
    have hdl := dst_lt (G := H) m
    refine F10.k7.to (C.len_rd ho8.rd (C.idx_int hd8.rd (by rw [distL_len]; exact hm) fun g o cs e fz hg hc => C.load1_of hg hc ?_))
    rw [distL_get, intC_len, hlen]
    simp only [C.ite_true, C.ite_false, C.pick_true, C.pick_false, C.not_bool, C.field_ptr, C.nilCheck_ptr, C.add_mk, C.sub_mk, C.mul_mk, C.eql_mk, C.neq_mk, C.lss_mk, C.leq_mk, C.gtr_mk, C.geq_mk, C.conv_mk, C.len_mk, C.ext_0, C.ext_1, C.ext3_0, C.ext3_1, C.ext3_2, C.guarded_yes, C.guarded_tf, C.guarded_ft, C.guarded_undef, Bool.not_true, Bool.not_false, Nat.zero_add, eq_self, decide_true, decide_false]
    rw [wrap64_id (n := H.dst m + 1) (by omega)]
    have e : ¬ ((((H.dst m).toNat + 1 : Nat) : Int) ≠ H.dst m + 1) := by omega
    simp only [C.ite_true, C.ite_false, C.pick_true, C.pick_false, C.not_bool, C.field_ptr, C.nilCheck_ptr, C.add_mk, C.sub_mk, C.mul_mk, C.eql_mk, C.neq_mk, C.lss_mk, C.leq_mk, C.gtr_mk, C.geq_mk, C.conv_mk, C.len_mk, C.ext_0, C.ext_1, C.ext3_0, C.ext3_1, C.ext3_2, C.guarded_yes, C.guarded_tf, C.guarded_ft, C.guarded_undef, Bool.not_true, Bool.not_false, Nat.zero_add, eq_self, decide_true, decide_false, e]
    refine C.idx_int hd8.rd (by rw [distL_len]; exact hm) fun g o cs e fz hg hc => C.load1_of (v := .int .i64 ((H.dst m).toNat : Int)) hg (by rw [hc, distL_get]; congr 2; omega) ?_
    refine C.idx_int ho8.rd (by rw [hlen]; omega) fun g o cs e fz hg hc => C.load1_of (v := .int .i64 (m : Int)) hg (by rw [hc, natC_get, way_get, Nat.sub_self]; rfl) ?_
    have e2 : ¬ ((m : Int) ≠ (m : Int)) := by simp
    simp only [C.ite_true, C.ite_false, C.pick_true, C.pick_false, C.not_bool, C.field_ptr, C.nilCheck_ptr, C.add_mk, C.sub_mk, C.mul_mk, C.eql_mk, C.neq_mk, C.lss_mk, C.leq_mk, C.gtr_mk, C.geq_mk, C.conv_mk, C.len_mk, C.ext_0, C.ext_1, C.ext3_0, C.ext3_1, C.ext3_2, C.guarded_yes, C.guarded_tf, C.guarded_ft, C.guarded_undef, Bool.not_true, Bool.not_false, Nat.zero_add, eq_self, decide_true, decide_false, e2]
    exact F10.k9.to (paths_loop ⟨hG4.keep f8, hb4.keep f8 (by simp), hd8.rd, ho8.rd⟩ h2' (fun w' hf' => h w' ((f04.trans f8).trans hf')) (H.dst m).toNat 0 w8 (by omega) (Fr.refl _ _))
end
end Go.Proofs.YtfhgjncbhjjbfaaV
