/- Which nodes counting frees: what the program's calls come to. -/
import Derived.Test.YtchonfdnghimdaaRf4
namespace Go.Proofs.YtchonfdnghimdaaV
open Go Go.Proofs Go.RowKit
set_option linter.unusedVariables false
set_option linter.unusedSimpArgs false
set_option maxRecDepth 10000
section
variable {K : VK} {w : World}
/-- One freed node's edges, taken away. -/
theorem fall_row {W1 : World} {G : Gr} {bg bo bq at_ : Nat} {nv rv ov fv : Value} {Ct : List Int} {P : List Bool} {q : List Nat} {b0 b1 : Nat} (hG : IsG W1 nv rv G) (hb : GBlk W1 bg 25 nv rv) (hL : FL W1 w b0 b1 bo bq ov fv Ct P q) (hq : at_ < q.length) (hI : WI G at_ [] Ct q)
    (h : ∀ b0 b1 Ct q' w', FL W1 w' b0 b1 bo bq ov fv Ct P q' → WI G (at_ + 1) [] Ct q' → (∃ s, q' = q ++ s) → F36.k11 K (.pointer (some ⟨bg, 0, none⟩)) (.pointer (some ⟨bo, 0, none⟩)) fv (.pointer (some ⟨bq, 0, none⟩)) (.int .i64 (at_ : Int)) w') :
    C.draw w fun S w6 => C.field 0 (.pointer (some ⟨bg, 0, none⟩)) w6 fun x43 w7 => C.field 0 (.pointer (some ⟨bg, 0, none⟩)) w7 fun x47 w8 => C.load1S S x43 w8 fun x44 w9 => C.len x44 w9 fun x45 w10 => C.load1S S x47 w10 fun x48 w11 => C.idx 1 x48 (.int .i64 (q[at_] : Int)) w11 fun x50 w12 => C.load1S S x50 w12 fun x51 w13 =>
      (C.run Try.prog (Instr.makeSlice 22 x45 x45) w13 fun x46 w14 => (S w14 ∧ ∃ x52, (∀ w', S w' → (Instr.build 25 #[(0, x46), (1, x51)]).run Try.prog w' = .ok x52 w') ∧ ((C.call Try.prog 50 #[x52, (.func (.func 52) #[] #[.pointer (some ⟨bo, 0, none⟩), .pointer (some ⟨bq, 0, none⟩)])] w14 fun x54 w16 => (S w16 ∧ F36.k11 K (.pointer (some ⟨bg, 0, none⟩)) (.pointer (some ⟨bo, 0, none⟩)) fv (.pointer (some ⟨bq, 0, none⟩)) (.int .i64 (at_ : Int)) w16)) ∧ True))) ∧ True := by
  have hfew := hG.few
  have hin : q[at_] < G.n := hI.lt _ (List.getElem_mem _)
  refine C.draw_of (fun w' => Fr [] W1 w') fun w1 hf1 he1 => ?_
  have hL1 := hL.keep hf1
  refine ⟨hL1.bs.fr, ?_⟩
  simp only [C.ite_true, C.ite_false, C.pick_true, C.pick_false, C.not_bool, C.field_ptr, C.nilCheck_ptr, C.add_mk, C.sub_mk, C.mul_mk, C.eql_mk, C.neq_mk, C.lss_mk, C.leq_mk, C.gtr_mk, C.geq_mk, C.conv_mk, C.len_mk, C.ext_0, C.ext_1, C.ext3_0, C.ext3_1, C.ext3_2, C.guarded_yes, C.guarded_tf, C.guarded_ft, C.guarded_undef, Bool.not_true, Bool.not_false, Nat.zero_add, eq_self, decide_true, decide_false, and_true]
  obtain ⟨vs, v1, v2, v3⟩ := hG.next
  have hiv : q[at_] < vs.length := by rw [v2]; exact hin
  refine C.load1S_of (v := nv) (fun w' hw => ⟨_, _, _, hb.keep hw (by simp), rfl⟩) ((hG.keep hL1.bs.fr).len_next (C.load1S_of (v := nv) (fun w' hw => ⟨_, _, _, hb.keep hw (by simp), rfl⟩) ?_))
  refine C.idx_slS (S := fun w' => Fr [] W1 w') (fun w' hw => v1.keep hw) hL1.bs.fr hiv fun g o hs => C.load1S_of hs ?_
  have hrow : ∀ w', Fr [] W1 w' → RdS w' vs[q[at_]] 1 (intC (G.row q[at_])) := fun w' hw => by
    rw [row_get hin]
    exact (v3 _ hin hiv).keep hw
  generalize hrw : vs[q[at_]] = rw_ at *
  refine C.make_of (e := 23) (sz := 1) (bytes := 24) (z := .slice none 0 0) G.n Try.underlying22 (by kernel_rfl) rfl (by decide) (by intro u hu; simp [Value.cells] at hu; subst hu; rfl) (by omega) (by omega) fun ga w2 hw2 ha2 => ⟨hL1.bs.fr.trans hw2.fr, ?_⟩
  have hL2 := hL1.rebase hw2.fr
  have e2 := hw2.is
  have hr2 := hrow w2 hL2.bs.fr
  obtain ⟨A, c, rfl, hxx⟩ := hr2
  rw [intC_len] at *
  refine ⟨_, fun w' _ => build46R _ _ _ _ _ _, ?_⟩
  have hr2' := hrow w2 hL2.bs.fr
  have hH : IsG w2 (.slice (some ⟨ga, 0, none⟩) G.n G.n) (.slice A (G.row q[at_]).length c) ⟨List.replicate G.n [], G.row q[at_]⟩ := by
    refine ⟨⟨List.replicate G.n (.slice none 0 0), ?_, by simp, fun i a b => ?_⟩, hr2', by show (List.replicate G.n []).length ≤ 1000; rw [List.length_replicate]; exact hfew, row_len hG _, fun r hr => by rw [List.eq_of_mem_replicate hr]; simp⟩
    · have e : slC (List.replicate G.n (.slice none 0 0)) = List.replicate G.n [.slice none 0 0] := by simp [slC]
      rw [e]
      exact ha2.rd
    · simp only [List.getElem_replicate]
      exact (OwnS.nil w2 3 1).rd
  have hHn : (⟨List.replicate G.n [], G.row q[at_]⟩ : Gr).n = G.n := by simp [Gr.n]
  have hHf : (⟨List.replicate G.n [], G.row q[at_]⟩ : Gr).flat = G.nod (G.row q[at_]) := by
    unfold Gr.flat Gr.nod
    rw [hHn]
    congr 1
    have : (List.replicate G.n ([] : List Int)).flatten = [] := by simp
    rw [List.flatten_cons, this, List.append_nil]
  have hnvs : RdS w2 (.slice (some ⟨ga, 0, none⟩) G.n G.n) 1 (slC (List.replicate G.n (.slice none 0 0))) := by
    have e : slC (List.replicate G.n (.slice none 0 0)) = List.replicate G.n [.slice none 0 0] := by simp [slC]
    rw [e]
    exact ha2.rd
  refine lead_c (b0 := w1.heap.size) (vs := List.replicate G.n (.slice none 0 0)) (I := fun b1 pre w' => ∃ Ct' q', FL W1 w' w1.heap.size b1 bo bq ov fv Ct' P q' ∧ WI G at_ pre Ct' q' ∧ (∃ s, q' = q ++ s)) hw2.fr.size hH hnvs (by simp) (fun b1 pre w' hI' => ?_) (fun w' hf' => ?_) (fun b1 pre k suf w' K' hI' hk he hK => ?_) (fun b1 w' hI' => ?_)
  · obtain ⟨Ct', q', hl, _⟩ := hI'
    exact ⟨hrow w' hl.bs.fr, fun i a b => by simp only [List.getElem_replicate]; exact (OwnS.nil w' 3 1).rd⟩
  · have hx := hL1.rebase (hw2.fr.trans hf')
    exact ⟨Ct, q, hx, hI, [], by simp⟩
  · obtain ⟨Ct', q', hl, hi, s, rfl⟩ := hI'
    rw [hHf] at he
    rw [hHn] at hk
    have hkl : k < Ct'.length := by rw [hi.len]; exact hk
    have hqs : at_ < (q ++ s).length := by rw [List.length_append]; omega
    have hqe : (q ++ s)[at_] = q[at_] := List.getElem_append_left hq
    have hst := hi.step (k := k) (suf := suf) ⟨hqs, by rw [hqe]; exact he⟩ hkl
    have hnn := hi.nonneg (suf := (k : Int) :: suf) ⟨hqs, by rw [hqe]; exact he⟩ k hkl
    rw [List.count_cons_self] at hnn
    have hvl := hi.val k hkl
    have hcl := cnt_le (P := fun k => decide (k ∈ (q ++ s).take at_)) (j := (k : Int)) hG
    refine vcCall_ofR bodied98 (F52.sh (C.load1_of (v := ov) hl.bs.hbo rfl (C.idx_int hl.bs.ho.rd hkl fun g o cs e fz hg hc => C.load1_of hg hc ?_)))
    simp only [C.ite_true, C.ite_false, C.pick_true, C.pick_false, C.not_bool, C.field_ptr, C.nilCheck_ptr, C.add_mk, C.sub_mk, C.mul_mk, C.eql_mk, C.neq_mk, C.lss_mk, C.leq_mk, C.gtr_mk, C.geq_mk, C.conv_mk, C.len_mk, C.ext_0, C.ext_1, C.ext3_0, C.ext3_1, C.ext3_2, C.guarded_yes, C.guarded_tf, C.guarded_ft, C.guarded_undef, Bool.not_true, Bool.not_false, Nat.zero_add, eq_self, decide_true, decide_false]
    rw [wrap64_id (n := Ct'[k] - 1) (by omega)]
    refine hl.dec hkl fun w3 hl3 hs3 => C.load1_of (v := ov) hl3.bs.hbo rfl (C.idx_int hl3.bs.ho.rd (by simpa using hkl) fun g o cs e fz hg hc => C.load1_of hg hc ?_)
    rw [List.getElem_set_self]
    simp only [C.ite_true, C.ite_false, C.pick_true, C.pick_false, C.not_bool, C.field_ptr, C.nilCheck_ptr, C.add_mk, C.sub_mk, C.mul_mk, C.eql_mk, C.neq_mk, C.lss_mk, C.leq_mk, C.gtr_mk, C.geq_mk, C.conv_mk, C.len_mk, C.ext_0, C.ext_1, C.ext3_0, C.ext3_1, C.ext3_2, C.guarded_yes, C.guarded_tf, C.guarded_ft, C.guarded_undef, Bool.not_true, Bool.not_false, Nat.zero_add, eq_self, decide_true, decide_false]
    by_cases hz : Ct'[k] - 1 = 0
    · simp only [C.ite_true, C.ite_false, C.pick_true, C.pick_false, C.not_bool, C.field_ptr, C.nilCheck_ptr, C.add_mk, C.sub_mk, C.mul_mk, C.eql_mk, C.neq_mk, C.lss_mk, C.leq_mk, C.gtr_mk, C.geq_mk, C.conv_mk, C.len_mk, C.ext_0, C.ext_1, C.ext3_0, C.ext3_1, C.ext3_2, C.guarded_yes, C.guarded_tf, C.guarded_ft, C.guarded_undef, Bool.not_true, Bool.not_false, Nat.zero_add, eq_self, decide_true, decide_false, hz]
      have hql := hi.qlen
      refine hl3.push (r := k) (by omega) fun w4 hl4 hs4 => hK w4 ⟨_, _, hl4, ?_, s ++ [k], by simp⟩ fun b hb hb' => by rw [hs4 b hb hb', hs3 b hb hb']
      exact hst.2 hz
    · simp only [C.ite_true, C.ite_false, C.pick_true, C.pick_false, C.not_bool, C.field_ptr, C.nilCheck_ptr, C.add_mk, C.sub_mk, C.mul_mk, C.eql_mk, C.neq_mk, C.lss_mk, C.leq_mk, C.gtr_mk, C.geq_mk, C.conv_mk, C.len_mk, C.ext_0, C.ext_1, C.ext3_0, C.ext3_1, C.ext3_2, C.guarded_yes, C.guarded_tf, C.guarded_ft, C.guarded_undef, Bool.not_true, Bool.not_false, Nat.zero_add, eq_self, decide_true, decide_false, hz]
      exact hK w3 ⟨_, _, hl3, hst.1 hz, s, rfl⟩ hs3
  · obtain ⟨Ct', q', hl, hi, s, rfl⟩ := hI'
    rw [hHf] at hi
    have hqs : at_ < (q ++ s).length := by rw [List.length_append]; omega
    have hqe : (q ++ s)[at_] = q[at_] := List.getElem_append_left hq
    rw [← hqe] at hi
    exact ⟨hl.bs.fr, h _ _ _ _ w' hl (hi.next hqs) ⟨s, rfl⟩⟩
theorem fall_loop {W1 : World} {G : Gr} {bg bo bq : Nat} {nv rv ov fv : Value} (hG : IsG W1 nv rv G) (hb : GBlk W1 bg 25 nv rv)
    (h : ∀ w', Fr [] W1 w' → NewS W1 fv → OwnS w' fv 4 1 (boolC (tab G.n G.fre)) → K fv w') :
    ∀ (d at_ : Nat) (b0 b1 : Nat) (Ct : List Int) (q : List Nat) (w : World), G.n = at_ + d → FL W1 w b0 b1 bo bq ov fv Ct (tab G.n fun j => decide (j ∈ q.take at_)) q → WI G at_ [] Ct q → at_ ≤ q.length →
      F36.l10 K (.pointer (some ⟨bg, 0, none⟩)) (.pointer (some ⟨bo, 0, none⟩)) fv (.pointer (some ⟨bq, 0, none⟩)) (.int .i64 (at_ : Int)) w := by
  have hfew := hG.few
  have fin : ∀ (at_ : Nat) (b0 b1 : Nat) (Ct : List Int) (q : List Nat) (w : World), FL W1 w b0 b1 bo bq ov fv Ct (tab G.n fun j => decide (j ∈ q.take at_)) q → WI G at_ [] Ct q → at_ = q.length →
      F36.l10 K (.pointer (some ⟨bg, 0, none⟩)) (.pointer (some ⟨bo, 0, none⟩)) fv (.pointer (some ⟨bq, 0, none⟩)) (.int .i64 (at_ : Int)) w := by
    intro at_ b0 b1 Ct q w hL hI he
    obtain ⟨qv, q1, q2, _⟩ := hL.bs.que
    refine F36.l10.to (C.load1_of (v := qv) q1 rfl (C.len_rd q2.rd ?_))
    simp only [C.ite_true, C.ite_false, C.pick_true, C.pick_false, C.not_bool, C.field_ptr, C.nilCheck_ptr, C.add_mk, C.sub_mk, C.mul_mk, C.eql_mk, C.neq_mk, C.lss_mk, C.leq_mk, C.gtr_mk, C.geq_mk, C.conv_mk, C.len_mk, C.ext_0, C.ext_1, C.ext3_0, C.ext3_1, C.ext3_2, C.guarded_yes, C.guarded_tf, C.guarded_ft, C.guarded_undef, Bool.not_true, Bool.not_false, Nat.zero_add, eq_self, decide_true, decide_false, intC_len, natC_len, show ¬ ((at_ : Int) < (q.length : Int)) by omega]
    refine F36.k15.to (h w hL.bs.fr hL.nf ?_)
    rw [tab_congr (g := fun j => decide (j ∈ q.take at_)) fun j hj => by rw [← hI.fin (by omega) hj, List.take_of_length_le (by omega)]]
    exact hL.hf
  intro d
  induction d with
  | zero =>
    intro at_ b0 b1 Ct q w hd hL hI hle
    exact fin at_ b0 b1 Ct q w hL hI (by have := hI.qlen; omega)
  | succ d ih =>
    intro at_ b0 b1 Ct q w hd hL hI hle
    rcases Nat.lt_or_ge at_ q.length with hlt | hge
    · obtain ⟨qv, q1, q2, _⟩ := hL.bs.que
      have hql := hI.qlen
      have hin : q[at_] < G.n := hI.lt _ (List.getElem_mem _)
      refine F36.l10.to (C.load1_of (v := qv) q1 rfl (C.len_rd q2.rd ?_))
      simp only [C.ite_true, C.ite_false, C.pick_true, C.pick_false, C.not_bool, C.field_ptr, C.nilCheck_ptr, C.add_mk, C.sub_mk, C.mul_mk, C.eql_mk, C.neq_mk, C.lss_mk, C.leq_mk, C.gtr_mk, C.geq_mk, C.conv_mk, C.len_mk, C.ext_0, C.ext_1, C.ext3_0, C.ext3_1, C.ext3_2, C.guarded_yes, C.guarded_tf, C.guarded_ft, C.guarded_undef, Bool.not_true, Bool.not_false, Nat.zero_add, eq_self, decide_true, decide_false, intC_len, natC_len, show ((at_ : Int) < (q.length : Int)) by omega]
      refine F36.k12.to (C.load1_of (v := qv) q1 rfl (C.idx_int q2.rd (by rw [natC_len]; exact hlt) fun g o cs e fz hg hc => C.load1_of hg (by rw [hc, natC_get]) ?_))
      refine hL.mark (by rw [tab_len]; exact hin) fun w1 hL1 => fall_row hG hb hL1 hlt hI fun b0' b1' Ct' q' w' hL' hI' hs => F36.k11.to ?_
      simp only [C.ite_true, C.ite_false, C.pick_true, C.pick_false, C.not_bool, C.field_ptr, C.nilCheck_ptr, C.add_mk, C.sub_mk, C.mul_mk, C.eql_mk, C.neq_mk, C.lss_mk, C.leq_mk, C.gtr_mk, C.geq_mk, C.conv_mk, C.len_mk, C.ext_0, C.ext_1, C.ext3_0, C.ext3_1, C.ext3_2, C.guarded_yes, C.guarded_tf, C.guarded_ft, C.guarded_undef, Bool.not_true, Bool.not_false, Nat.zero_add, eq_self, decide_true, decide_false]
      rw [wrap64_id (n := (at_ : Int) + 1) (by omega), show (at_ : Int) + 1 = ((at_ + 1 : Nat) : Int) by omega]
      obtain ⟨s, rfl⟩ := hs
      refine ih (at_ + 1) b0' b1' Ct' (q ++ s) w' (by omega) ?_ hI' (by rw [List.length_append]; omega)
      rw [tab_set] at hL'
      rw [tab_congr (g := upd (fun j => decide (j ∈ q.take at_)) q[at_] true) fun j hj => ?_]
      · exact hL'
      · rw [upd_ap, List.take_append_of_le_length (by omega), List.take_succ_eq_append_getElem hlt]
        by_cases c : j = q[at_]
        · rw [if_pos c]
          exact decide_eq_true (by rw [c]; exact List.mem_append_right _ (List.mem_singleton.2 rfl))
        · rw [if_neg c]
          refine decide_eq_decide.2 ?_
          simp only [List.mem_append, List.mem_singleton, c, or_false]
    · exact fin at_ b0 b1 Ct q w hL hI (by omega)
theorem fall_start {W1 : World} {G : Gr} {bg bo bq : Nat} {nv rv ov fv : Value} (hG : IsG W1 nv rv G) (hb : GBlk W1 bg 25 nv rv)
    (h : ∀ b0 b1 q w', FL W1 w' b0 b1 bo bq ov fv G.countsL (tab G.n fun _ => false) q → WI G 0 [] G.countsL q → F36.k9 K (.pointer (some ⟨bg, 0, none⟩)) (.pointer (some ⟨bo, 0, none⟩)) fv (.pointer (some ⟨bq, 0, none⟩)) w') :
    ∀ (d i : Nat) (b0 b1 : Nat) (w : World), G.n = i + d → FL W1 w b0 b1 bo bq ov fv G.countsL (tab G.n fun _ => false) ((List.range i).filter fun (j : Nat) => decide (G.cnt (fun _ => false) (j : Int) = 0)) →
      F36.l4 K (.pointer (some ⟨bg, 0, none⟩)) (.pointer (some ⟨bo, 0, none⟩)) fv (.pointer (some ⟨bq, 0, none⟩)) ov (.int .i64 (G.n : Int)) (.int .i64 (i : Int)) w := by
  have hfew := hG.few
  have hcl : G.countsL.length = G.n := tab_len _ _
  intro d
  induction d with
  | zero =>
    intro i b0 b1 w hi hL
    refine F36.l4.to ?_
    simp only [C.ite_true, C.ite_false, C.pick_true, C.pick_false, C.not_bool, C.field_ptr, C.nilCheck_ptr, C.add_mk, C.sub_mk, C.mul_mk, C.eql_mk, C.neq_mk, C.lss_mk, C.leq_mk, C.gtr_mk, C.geq_mk, C.conv_mk, C.len_mk, C.ext_0, C.ext_1, C.ext3_0, C.ext3_1, C.ext3_2, C.guarded_yes, C.guarded_tf, C.guarded_ft, C.guarded_undef, Bool.not_true, Bool.not_false, Nat.zero_add, eq_self, decide_true, decide_false, show ¬ ((i : Int) < (G.n : Int)) by omega]
    obtain rfl : i = G.n := by omega
    refine h _ _ _ w hL ⟨hcl, List.nodup_range.filter _, fun x hx => List.mem_range.1 (List.mem_filter.1 hx).1, fun j hj => ?_, fun j hj => ?_, fun p hp => ?_⟩
    · simp only [Gr.countsL, tab_get, List.count_nil]
      have : G.cnt (fun k => decide (k ∈ List.take 0 ((List.range G.n).filter fun (j : Nat) => decide (G.cnt (fun _ => false) (j : Int) = 0)))) (j : Int) = G.cnt (fun _ => false) (j : Int) := cnt_congr fun k _ => by simp
      rw [this]
      omega
    · rw [hcl] at hj
      simp only [Gr.countsL, tab_get, List.mem_filter, List.mem_range, decide_eq_true_eq, hj, true_and]
      omega
    · have h1 := List.getElem_mem hp
      have h2 := of_decide_eq_true (List.mem_filter.1 h1).2
      have h3 := cnt_mono (G := G) (P := fun _ => false) (Q := fun k => decide (k ∈ List.take p ((List.range G.n).filter fun (j : Nat) => decide (G.cnt (fun _ => false) (j : Int) = 0)))) (j := (((List.range G.n).filter fun (j : Nat) => decide (G.cnt (fun _ => false) (j : Int) = 0))[p] : Int)) (fun k hk => by cases hk)
      omega
  | succ d ih =>
    intro i b0 b1 w hi hL
    have hin : i < G.n := by omega
    have hs := filter_range_succ (fun (j : Nat) => decide (G.cnt (fun _ => false) (j : Int) = 0)) i
    have hle : ((List.range i).filter fun (j : Nat) => decide (G.cnt (fun _ => false) (j : Int) = 0)).length ≤ i := Nat.le_trans (List.length_filter_le _ _) (by simp)
    refine F36.l4.to ?_
    simp only [C.ite_true, C.ite_false, C.pick_true, C.pick_false, C.not_bool, C.field_ptr, C.nilCheck_ptr, C.add_mk, C.sub_mk, C.mul_mk, C.eql_mk, C.neq_mk, C.lss_mk, C.leq_mk, C.gtr_mk, C.geq_mk, C.conv_mk, C.len_mk, C.ext_0, C.ext_1, C.ext3_0, C.ext3_1, C.ext3_2, C.guarded_yes, C.guarded_tf, C.guarded_ft, C.guarded_undef, Bool.not_true, Bool.not_false, Nat.zero_add, eq_self, decide_true, decide_false, show ((i : Int) < (G.n : Int)) by omega]
    have nx : ∀ w', FL W1 w' b0 b1 bo bq ov fv G.countsL (tab G.n fun _ => false) ((List.range (i + 1)).filter fun (j : Nat) => decide (G.cnt (fun _ => false) (j : Int) = 0)) → F36.k8 K (.pointer (some ⟨bg, 0, none⟩)) (.pointer (some ⟨bo, 0, none⟩)) fv (.pointer (some ⟨bq, 0, none⟩)) ov (.int .i64 (G.n : Int)) (.int .i64 (i : Int)) w' := by
      intro w' a
      refine F36.k8.to ?_
      simp only [C.ite_true, C.ite_false, C.pick_true, C.pick_false, C.not_bool, C.field_ptr, C.nilCheck_ptr, C.add_mk, C.sub_mk, C.mul_mk, C.eql_mk, C.neq_mk, C.lss_mk, C.leq_mk, C.gtr_mk, C.geq_mk, C.conv_mk, C.len_mk, C.ext_0, C.ext_1, C.ext3_0, C.ext3_1, C.ext3_2, C.guarded_yes, C.guarded_tf, C.guarded_ft, C.guarded_undef, Bool.not_true, Bool.not_false, Nat.zero_add, eq_self, decide_true, decide_false]
      rw [wrap64_id (n := (i : Int) + 1) (by omega), show (i : Int) + 1 = ((i + 1 : Nat) : Int) by omega]
      exact ih (i + 1) b0 b1 w' (by omega) a
    refine F36.k5.to (C.idx_int hL.bs.ho.rd (by rw [hcl]; exact hin) fun g o cs e fz hg hc => C.load1_of hg hc ?_)
    simp only [Gr.countsL, tab_get]
    by_cases hz : G.cnt (fun _ => false) (i : Int) = 0
    · have e : ((G.cnt (fun _ => false) (i : Int) : Int)) = 0 := by omega
      simp only [C.ite_true, C.ite_false, C.pick_true, C.pick_false, C.not_bool, C.field_ptr, C.nilCheck_ptr, C.add_mk, C.sub_mk, C.mul_mk, C.eql_mk, C.neq_mk, C.lss_mk, C.leq_mk, C.gtr_mk, C.geq_mk, C.conv_mk, C.len_mk, C.ext_0, C.ext_1, C.ext3_0, C.ext3_1, C.ext3_2, C.guarded_yes, C.guarded_tf, C.guarded_ft, C.guarded_undef, Bool.not_true, Bool.not_false, Nat.zero_add, eq_self, decide_true, decide_false, e]
      refine hL.push (r := i) (by omega) fun w1 hL1 _ => nx w1 ?_
      rw [hs, if_pos (decide_eq_true hz)]
      exact hL1
    · have e : ¬ ((G.cnt (fun _ => false) (i : Int) : Int)) = 0 := by omega
      simp only [C.ite_true, C.ite_false, C.pick_true, C.pick_false, C.not_bool, C.field_ptr, C.nilCheck_ptr, C.add_mk, C.sub_mk, C.mul_mk, C.eql_mk, C.neq_mk, C.lss_mk, C.leq_mk, C.gtr_mk, C.geq_mk, C.conv_mk, C.len_mk, C.ext_0, C.ext_1, C.ext3_0, C.ext3_1, C.ext3_2, C.guarded_yes, C.guarded_tf, C.guarded_ft, C.guarded_undef, Bool.not_true, Bool.not_false, Nat.zero_add, eq_self, decide_true, decide_false, e]
      refine nx w ?_
      rw [hs, if_neg (by simpa using hz), List.append_nil]
      exact hL
theorem fall_k2 {W1 : World} {G : Gr} {bg bo : Nat} {nv rv ov fv : Value} (hG : IsG W1 nv rv G) (hb : GBlk W1 bg 25 nv rv) (hf : Fr [] W1 w) (hbo : w.heap[bo]? = some (.cells #[ov] 23 (0, 0))) (l1 : W1.heap.size ≤ bo) (ho : OwnS w ov 3 1 (intC G.countsL)) (no : NewS W1 ov) (hv : OwnS w fv 4 1 (boolC (tab G.n fun _ => false))) (nf : NewS W1 fv)
    (d1 : ∀ g ∈ blkS ov, g ≠ bo) (d2 : ∀ g ∈ blkS fv, g ≠ bo ∧ g ∉ blkS ov) (h : ∀ w', Fr [] W1 w' → NewS W1 fv → OwnS w' fv 4 1 (boolC (tab G.n G.fre)) → K fv w') : F36.k2 K (.pointer (some ⟨bg, 0, none⟩)) (.pointer (some ⟨bo, 0, none⟩)) fv w := by
  refine F36.k2.to (C.new_of fun bq w1 hw1 => C.load1_of (v := ov) (hw1.fr.at_ hbo (by simp)) rfl (C.len_rd (ho.keep hw1.fr (by simp)).rd ?_))
  have e1 := hw1.is
  have e1' := hw1.sz
  have lo := ho.mem_lt
  have lf := hv.mem_lt
  have lb := lt_of_at hbo
  have s1 := hf.size
  rw [intC_len, show G.countsL.length = G.n from tab_len _ _]
  have hL : FL W1 w1 w1.heap.size w1.heap.size bo bq ov fv G.countsL (tab G.n fun _ => false) [] := by
    refine ⟨⟨hf.trans hw1.fr, hw1.fr.at_ hbo (by simp), ho.keep hw1.fr (by simp), no, l1, by omega, by omega, fun g hg => ⟨d1 g hg, by have := lo g hg; omega⟩, .slice none 0 0, hw1.at_, OwnS.nil _ _ _, NewS.nil _, fun g hg => by simp [blkS, Value.ownBlock] at hg⟩, hv.keep hw1.fr (by simp), nf, fun g hg => ⟨(d2 g hg).1, by have := lf g hg; omega, (d2 g hg).2⟩, fun qv hq => ?_, ⟨by omega, by omega, fun g hg => by have := lo g hg; omega, fun g hg => by have := lf g hg; omega⟩, Nat.le_refl _, Nat.le_refl _⟩
    rw [hw1.at_] at hq
    simp only [Option.some.injEq, Obj.cells.injEq, and_true] at hq
    have e : Value.slice none 0 0 = qv := by simpa using hq
    subst e
    intro g hg
    simp [blkS, Value.ownBlock] at hg
  refine fall_start hG hb (fun b0 b1 q w' hL' hI' => F36.k9.to (fall_loop (ov := ov) hG hb h G.n 0 b0 b1 _ q w' (by omega) ?_ hI' (by omega))) G.n 0 _ _ w1 (by omega) hL
  rw [tab_congr (g := fun _ => false) fun j _ => by simp]
  exact hL'
end
end Go.Proofs.YtchonfdnghimdaaV
