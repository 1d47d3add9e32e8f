/- The pages' own example, and the first laws of images. · EvacChecks and EvacAgain. · EvacCopies. · The reference's view: values, the least serial. -/
import Derived.Test.YtfjilngljnlkjaaEvD
import Derived.Test.YtfjilngljnlkjaaEvC
import Derived.Test.YtfjilngljnlkjaaGLawE
import Derived.Test.YtfjilngljnlkjaaGLawE4
namespace Go.Proofs.YtfjilngljnlkjaaV
open Go Go.Proofs Go.RowKit
set_option linter.unusedVariables false
set_option linter.unusedSimpArgs false
set_option maxRecDepth 10000
section
variable {K : VK} {w : World}
/-! ### 1. Literals -/
theorem bsW1 (a : Int) : (Instr.buildSlice 22 1 #[(0, .int .i64 a)]).run Try.prog w = .ok (.slice (some ⟨w.heap.size, 0, none⟩) 1 1) (w.alloc (.cells #[.int .i64 a] 2)) := by kernel_rfl
theorem bsW2 (a b : Int) : (Instr.buildSlice 22 2 #[(0, .int .i64 a), (1, .int .i64 b)]).run Try.prog w = .ok (.slice (some ⟨w.heap.size, 0, none⟩) 2 2) (w.alloc (.cells #[.int .i64 a, .int .i64 b] 2)) := by kernel_rfl
theorem bsW3 (a b c : Int) : (Instr.buildSlice 22 3 #[(0, .int .i64 a), (1, .int .i64 b), (2, .int .i64 c)]).run Try.prog w = .ok (.slice (some ⟨w.heap.size, 0, none⟩) 3 3) (w.alloc (.cells #[.int .i64 a, .int .i64 b, .int .i64 c] 2)) := by kernel_rfl
theorem bsN2 (a b : Int) : (Instr.buildSlice 26 2 #[(0, .int .i64 a), (1, .int .i64 b)]).run Try.prog w = .ok (.slice (some ⟨w.heap.size, 0, none⟩) 2 2) (w.alloc (.cells #[.int .i64 a, .int .i64 b] 3)) := by kernel_rfl
theorem C.litW1 {a : Int} (hk : ∀ v w', Fr [] w w' → RdS w' v 1 (intC [a]) → K v w') : C.run Try.prog (Instr.buildSlice 22 1 #[(0, .int .i64 a)]) w K := by
  have hw := New.mk' w (.cells #[.int .i64 a] 2)
  exact C.run_of (bsW1 a) (hk _ _ hw.fr (RdS.of_block hw.at_ rfl (by simp) (by simp) (by simp [intC]) (by simp [intC])))
theorem C.litW2 {a b : Int} (hk : ∀ v w', Fr [] w w' → RdS w' v 1 (intC [a, b]) → K v w') : C.run Try.prog (Instr.buildSlice 22 2 #[(0, .int .i64 a), (1, .int .i64 b)]) w K := by
  have hw := New.mk' w (.cells #[.int .i64 a, .int .i64 b] 2)
  exact C.run_of (bsW2 a b) (hk _ _ hw.fr (RdS.of_block hw.at_ rfl (by simp) (by simp) (by simp [intC]) (by simp [intC])))
theorem C.litW3 {a b c : Int} (hk : ∀ v w', Fr [] w w' → RdS w' v 1 (intC [a, b, c]) → K v w') : C.run Try.prog (Instr.buildSlice 22 3 #[(0, .int .i64 a), (1, .int .i64 b), (2, .int .i64 c)]) w K := by
  have hw := New.mk' w (.cells #[.int .i64 a, .int .i64 b, .int .i64 c] 2)
  exact C.run_of (bsW3 a b c) (hk _ _ hw.fr (RdS.of_block hw.at_ rfl (by simp) (by simp) (by simp [intC]) (by simp [intC])))
theorem C.litN2 {a b : Int} (hk : ∀ v w', Fr [] w w' → RdS w' v 1 (intC [a, b]) → K v w') : C.run Try.prog (Instr.buildSlice 26 2 #[(0, .int .i64 a), (1, .int .i64 b)]) w K := by
  have hw := New.mk' w (.cells #[.int .i64 a, .int .i64 b] 3)
  exact C.run_of (bsN2 a b) (hk _ _ hw.fr (RdS.of_block hw.at_ rfl (by simp) (by simp) (by simp [intC]) (by simp [intC])))
/-! ### 2. The example -/
def exM : List Ob := [⟨0, 0, [6]⟩, ⟨2, 1, []⟩]
theorem ex_spl : Spl 0 [1, 6, 128] exM := Spl.cons (o := ⟨0, 0, [6]⟩) rfl (by decide) (by decide) (by decide) (Spl.cons (o := ⟨2, 1, []⟩) rfl (by decide) (by decide) (by decide) Spl.nil)
theorem ex_fine : fineM exM := by unfold fineM fineL; decide +kernel
theorem ex_fr : fineL exM [6, 7] := by unfold fineL; decide +kernel
theorem ex_fr1 : fineL exM [6] := by unfold fineL; decide +kernel
theorem ex_opn : Opn [1, 6, 128] exM [6, 7] := ⟨ex_spl, by decide, ex_fine, ex_fr⟩
theorem ex_opn1 : Opn [1, 6, 128] exM [6] := ⟨ex_spl, by decide, ex_fine, ex_fr1⟩
theorem ex_cd : Cd [1, 6, 128] 0 exM := .inr (.inr ⟨rfl, by decide, ex_spl, ex_fine⟩)
theorem ex_lay : lay exM (ordO exM [6, 7]) = [128] := by decide +kernel
theorem ex_mov : [6, 7].map (movW exM (ordO exM [6, 7])) = [2, 7] := by decide +kernel
theorem ex_slO : slO exM [6] = [1] := by decide +kernel
theorem one_bad : ¬ ∃ m', Spl 0 [1] m' ∧ fineM m' := by
  rintro ⟨m', h, _⟩
  have key : ∀ (at_ : Nat) (l : List Int) (m' : List Ob), Spl at_ l m' → l ≠ [1] := by
    intro at_ l m' h e
    cases h with
    | nil => cases e
    | cons a b c d f =>
      rename_i o t m2
      have h1 : o.hd = 1 := by injection e
      have h2 : o.fs.length = 0 := by
        injection e with _ x
        have := congrArg List.length x
        simp only [List.length_append, List.length_nil] at this
        omega
      obtain ⟨i, j⟩ := hd_div d
      rw [h1, h2] at j
      exact absurd j (by decide)
  exact key _ _ _ h rfl
theorem Rng.lit3 : Rng [1, 6, 128] := by unfold Rng; decide
theorem vw_nodes {m : List Ob} {roots : List Int} {p : Nat} (h : ordO m roots = [p]) : (vwO m roots).2 = [nodeA m p] := by simp [vwO, h, srtS]
theorem alive37_c (h : ∀ w', Fr [] w w' → K (.bool true) w') : C.call Try.prog 10 #[] w K := by
  refine F10.sh (C.litW3 fun lv w1 hf1 hl1 => C.litW2 fun rv w2 hf2 hr2 => ?_)
  have hl2 := hl1.keep hf2
  have f2 := hf1.trans hf2
  refine Copy_c hl2 Rng.lit3 hr2 (by unfold Rng; decide) (by decide) (fun c m w3 hc c0 hf3 => absurd (hc.det ex_opn.cr).1 c0) fun m tv hv w3 hc hf3 ht hh _ _ => ?_
  obtain ⟨_, rfl⟩ := hc.det ex_opn.cr
  rw [ex_lay] at ht
  rw [ex_mov] at hh
  simp only [C.ite_true, C.ite_false, C.pick_true, C.pick_false, C.not_bool, C.field_ptr, C.nilCheck_ptr, C.add_mk, C.sub_mk, C.mul_mk, C.eql_mk, C.neq_mk, C.lss_mk, C.leq_mk, C.gtr_mk, C.geq_mk, C.conv_mk, C.len_mk, C.ext_0, C.ext_1, C.ext3_0, C.ext3_1, C.ext3_2, C.guarded_yes, C.guarded_tf, C.guarded_ft, C.guarded_undef, Bool.not_true, Bool.not_false, Nat.zero_add, eq_self, decide_true, decide_false]
  refine C.litW1 fun qv w4 hf4 hq4 => ?_
  have f34 := hf3.trans hf4
  refine EView_c (hl2.keep f34) Rng.lit3 hq4 (by unfold Rng; decide) (by decide) (fun c m w5 hc c0 hf5 => absurd (hc.det ex_opn1.cr).1 c0) fun m rows nodes w5 hc hf5 hV5 => ?_
  obtain ⟨_, rfl⟩ := hc.det ex_opn1.cr
  simp only [C.ite_true, C.ite_false, C.pick_true, C.pick_false, C.not_bool, C.field_ptr, C.nilCheck_ptr, C.add_mk, C.sub_mk, C.mul_mk, C.eql_mk, C.neq_mk, C.lss_mk, C.leq_mk, C.gtr_mk, C.geq_mk, C.conv_mk, C.len_mk, C.ext_0, C.ext_1, C.ext3_0, C.ext3_1, C.ext3_2, C.guarded_yes, C.guarded_tf, C.guarded_ft, C.guarded_undef, Bool.not_true, Bool.not_false, Nat.zero_add, eq_self, decide_true, decide_false]
  refine C.new_of fun b w6 hn6 => C.store_all (x := .agg #[rows, nodes]) hn6.at_ (by rw [hV5.cells]; rfl) hV5.ones rfl fun w7 hu7 => ?_
  have i6 := hn6.is
  have f57 : Fr [] w5 w7 := hn6.fr.then hu7.fr fun z hz => .inr (by simp only [List.mem_singleton] at hz; omega)
  have hb7 : VB w7 b rows nodes := by
    have := hu7.at_
    rw [hV5.cells] at this
    exact this
  have hV7 := hV5.keep f57
  have f47 := (hf4.trans hf5).trans f57
  simp only [C.ite_true, C.ite_false, C.pick_true, C.pick_false, C.not_bool, C.field_ptr, C.nilCheck_ptr, C.add_mk, C.sub_mk, C.mul_mk, C.eql_mk, C.neq_mk, C.lss_mk, C.leq_mk, C.gtr_mk, C.geq_mk, C.conv_mk, C.len_mk, C.ext_0, C.ext_1, C.ext3_0, C.ext3_1, C.ext3_2, C.guarded_yes, C.guarded_tf, C.guarded_ft, C.guarded_undef, Bool.not_true, Bool.not_false, Nat.zero_add, eq_self, decide_true, decide_false]
  refine C.litW1 fun v8 w8 hf8 h8 => WordsEq_c ((ht.rd.keep f47).keep hf8) h8 fun w9 hf9 => ?_
  rw [decide_eq_true rfl]
  simp only [C.ite_true, C.ite_false, C.pick_true, C.pick_false, C.not_bool, C.field_ptr, C.nilCheck_ptr, C.add_mk, C.sub_mk, C.mul_mk, C.eql_mk, C.neq_mk, C.lss_mk, C.leq_mk, C.gtr_mk, C.geq_mk, C.conv_mk, C.len_mk, C.ext_0, C.ext_1, C.ext3_0, C.ext3_1, C.ext3_2, C.guarded_yes, C.guarded_tf, C.guarded_ft, C.guarded_undef, Bool.not_true, Bool.not_false, Nat.zero_add, eq_self, decide_true, decide_false]
  have f79 := hf8.trans hf9
  refine C.litW2 fun v10 w10 hf10 h10 => WordsEq_c (((hh.rd.keep f47).keep f79).keep hf10) h10 fun w11 hf11 => ?_
  rw [decide_eq_true rfl]
  simp only [C.ite_true, C.ite_false, C.pick_true, C.pick_false, C.not_bool, C.field_ptr, C.nilCheck_ptr, C.add_mk, C.sub_mk, C.mul_mk, C.eql_mk, C.neq_mk, C.lss_mk, C.leq_mk, C.gtr_mk, C.geq_mk, C.conv_mk, C.len_mk, C.ext_0, C.ext_1, C.ext3_0, C.ext3_1, C.ext3_2, C.guarded_yes, C.guarded_tf, C.guarded_ft, C.guarded_undef, Bool.not_true, Bool.not_false, Nat.zero_add, eq_self, decide_true, decide_false]
  have f711 := f79.trans (hf10.trans hf11)
  have hb11 := hb7.keep f711 (by simp)
  have hV11 := hV7.keep f711
  have en : (vwO exM [6]).2 = [(1, [])] := by
    rw [vw_nodes (p := 1) (by decide +kernel)]
    decide +kernel
  have hN := hV11.nodes
  rw [en] at hN
  refine C.load1_of (v := nodes) hb11 rfl (hN.len ?_)
  rw [show (([((1 : Int), ([] : List Va))] : List Nd).length : Int) = 1 from rfl]
  simp only [C.ite_true, C.ite_false, C.pick_true, C.pick_false, C.not_bool, C.field_ptr, C.nilCheck_ptr, C.add_mk, C.sub_mk, C.mul_mk, C.eql_mk, C.neq_mk, C.lss_mk, C.leq_mk, C.gtr_mk, C.geq_mk, C.conv_mk, C.len_mk, C.ext_0, C.ext_1, C.ext3_0, C.ext3_1, C.ext3_2, C.guarded_yes, C.guarded_tf, C.guarded_ft, C.guarded_undef, Bool.not_true, Bool.not_false, Nat.zero_add, eq_self, decide_true, decide_false]
  refine C.load1_of (v := nodes) hb11 rfl ?_
  refine NodesAt.get (i := 0) hN (by decide) fun g o cs e fz f hg h0 h1 hr' => ?_
  simp only [C.ite_true, C.ite_false, C.pick_true, C.pick_false, C.not_bool, C.field_ptr, C.nilCheck_ptr, C.add_mk, C.sub_mk, C.mul_mk, C.eql_mk, C.neq_mk, C.lss_mk, C.leq_mk, C.gtr_mk, C.geq_mk, C.conv_mk, C.len_mk, C.ext_0, C.ext_1, C.ext3_0, C.ext3_1, C.ext3_2, C.guarded_yes, C.guarded_tf, C.guarded_ft, C.guarded_undef, Bool.not_true, Bool.not_false, Nat.zero_add, eq_self, decide_true, decide_false]
  refine C.load1_of hg h0 ?_
  simp only [List.getElem_cons_zero, C.ite_true, C.ite_false, C.pick_true, C.pick_false, C.not_bool, C.field_ptr, C.nilCheck_ptr, C.add_mk, C.sub_mk, C.mul_mk, C.eql_mk, C.neq_mk, C.lss_mk, C.leq_mk, C.gtr_mk, C.geq_mk, C.conv_mk, C.len_mk, C.ext_0, C.ext_1, C.ext3_0, C.ext3_1, C.ext3_2, C.guarded_yes, C.guarded_tf, C.guarded_ft, C.guarded_undef, Bool.not_true, Bool.not_false, Nat.zero_add, eq_self, decide_true, decide_false]
  have f211 := f34.trans (hf5.trans (f57.trans f711))
  refine Objects_c (hl2.keep f211) Rng.lit3 fun c m sv w12 hc hf12 hs12 => ?_
  obtain ⟨_, rfl⟩ := hc.det ex_cd
  refine C.litN2 fun v13 w13 hf13 h13 => Ints_c (hs12.keep hf13) h13 fun w14 hf14 => ?_
  rw [show decide (atL exM = [0, 2]) = true by decide]
  simp only [C.ite_true, C.ite_false, C.pick_true, C.pick_false, C.not_bool, C.field_ptr, C.nilCheck_ptr, C.add_mk, C.sub_mk, C.mul_mk, C.eql_mk, C.neq_mk, C.lss_mk, C.leq_mk, C.gtr_mk, C.geq_mk, C.conv_mk, C.len_mk, C.ext_0, C.ext_1, C.ext3_0, C.ext3_1, C.ext3_2, C.guarded_yes, C.guarded_tf, C.guarded_ft, C.guarded_undef, Bool.not_true, Bool.not_false, Nat.zero_add, eq_self, decide_true, decide_false]
  refine C.litW1 fun v15 w15 hf15 h15 => ECheck_c h15 (by unfold Rng; decide) fun c m w16 hc hf16 => ?_
  have ec : c = 16 := by
    rcases hc with ⟨a1, a2, a3⟩ | ⟨a1, a2, a3, a4⟩ | ⟨a1, a2, a3, a4⟩
    · exact absurd a2 (by decide)
    · exact a1
    · exact absurd ⟨_, a3, a4⟩ one_bad
  subst ec
  simp only [C.ite_true, C.ite_false, C.pick_true, C.pick_false, C.not_bool, C.field_ptr, C.nilCheck_ptr, C.add_mk, C.sub_mk, C.mul_mk, C.eql_mk, C.neq_mk, C.lss_mk, C.leq_mk, C.gtr_mk, C.geq_mk, C.conv_mk, C.len_mk, C.ext_0, C.ext_1, C.ext3_0, C.ext3_1, C.ext3_2, C.guarded_yes, C.guarded_tf, C.guarded_ft, C.guarded_undef, Bool.not_true, Bool.not_false, Nat.zero_add, eq_self, decide_true, decide_false]
  exact h w16 (f2.trans (f211.trans ((hf12.trans (hf13.trans hf14)).trans (hf15.trans hf16))))
/-! ### 3. A few -/
theorem few_c {lv : Value} {l : List Int} (hl : RdS w lv 1 (intC l)) (hr : Rng l) (h : ∀ v l', RdS w v 1 (intC l') → Rng l' → l'.length ≤ 300 → K v w) : C.call Try.prog 15 #[lv] w K := by
  refine F15.sh (C.len_rd hl ?_)
  rw [intC_len]
  obtain ⟨A, c, e, hA⟩ := hl
  by_cases g : (l.length : Int) > 300
  · simp only [C.ite_true, C.ite_false, C.pick_true, C.pick_false, C.not_bool, C.field_ptr, C.nilCheck_ptr, C.add_mk, C.sub_mk, C.mul_mk, C.eql_mk, C.neq_mk, C.lss_mk, C.leq_mk, C.gtr_mk, C.geq_mk, C.conv_mk, C.len_mk, C.ext_0, C.ext_1, C.ext3_0, C.ext3_1, C.ext3_2, C.guarded_yes, C.guarded_tf, C.guarded_ft, C.guarded_undef, Bool.not_true, Bool.not_false, Nat.zero_add, eq_self, decide_true, decide_false, g]
    have hl : RdS w lv 1 (intC l) := ⟨A, c, e, hA⟩
    have hc : (intC l).length ≤ c := hA.1
    rw [intC_len] at hc
    subst e
    refine C.run_of (sliceTo_run (sz := 1) A _ c .i64 300 Try.underlying22 (by kernel_rfl) (by omega) (by omega)) ?_
    have ht := hl.take 300 (by rw [intC_len]; omega)
    rw [show (intC l).take 300 = intC (l.take 300) by simp [intC]] at ht
    exact h _ (l.take 300) ht (fun x hx => hr x (List.mem_of_mem_take hx)) (by simp; omega)
  · simp only [C.ite_true, C.ite_false, C.pick_true, C.pick_false, C.not_bool, C.field_ptr, C.nilCheck_ptr, C.add_mk, C.sub_mk, C.mul_mk, C.eql_mk, C.neq_mk, C.lss_mk, C.leq_mk, C.gtr_mk, C.geq_mk, C.conv_mk, C.len_mk, C.ext_0, C.ext_1, C.ext3_0, C.ext3_1, C.ext3_2, C.guarded_yes, C.guarded_tf, C.guarded_ft, C.guarded_undef, Bool.not_true, Bool.not_false, Nat.zero_add, eq_self, decide_true, decide_false, g]
    exact F15.k3.to (h lv l ⟨A, c, e, hA⟩ hr (by omega))
end
end Go.Proofs.YtfjilngljnlkjaaV
namespace Go.Proofs.YtfjilngljnlkjaaV
open Go Go.Proofs Go.RowKit
set_option linter.unusedVariables false
set_option linter.unusedSimpArgs false
set_option maxRecDepth 10000
section
variable {K : VK} {w : World}
theorem checks_loop {W0 : World} {lv mv : Value} {l : List Int} {m : List Ob} {fs : List Value} {c : Int} (hl : RdS W0 lv 1 (intC l)) (hr : Rng l) (hc : Cd l c m) (hM : ObsAt W0 mv m fs) (hml : m.length ≤ 2048)
    (h : ∀ w', Fr [] W0 w' → K (.bool true) w') :
    ∀ (d j : Nat) (w : World) (av : Value), m.length = j + d → Fr [] W0 w → NewS W0 av → OwnS w av 3 1 (intC (atL (m.take j))) → F3.l8 K lv mv (.int .i64 c) av (.int .i64 (j : Int)) w := by
  intro d
  induction d with
  | zero =>
    intro j w av hj hf hn ho
    refine F3.l8.to ((hM.keep hf).lenC ?_)
    simp only [C.ite_true, C.ite_false, C.pick_true, C.pick_false, C.not_bool, C.field_ptr, C.nilCheck_ptr, C.add_mk, C.sub_mk, C.mul_mk, C.eql_mk, C.neq_mk, C.lss_mk, C.leq_mk, C.gtr_mk, C.geq_mk, C.conv_mk, C.len_mk, C.ext_0, C.ext_1, C.ext3_0, C.ext3_1, C.ext3_2, C.guarded_yes, C.guarded_tf, C.guarded_ft, C.guarded_undef, Bool.not_true, Bool.not_false, Nat.zero_add, eq_self, decide_true, decide_false, show ¬ ((j : Int) < (m.length : Int)) by omega]
    rw [List.take_of_length_le (by omega)] at ho
    refine F3.k11.to (ECheck_c (hl.keep hf) hr fun c' m' w1 hc' hf1 => ?_)
    obtain ⟨rfl, rfl⟩ := hc.det hc'
    simp only [C.ite_true, C.ite_false, C.pick_true, C.pick_false, C.not_bool, C.field_ptr, C.nilCheck_ptr, C.add_mk, C.sub_mk, C.mul_mk, C.eql_mk, C.neq_mk, C.lss_mk, C.leq_mk, C.gtr_mk, C.geq_mk, C.conv_mk, C.len_mk, C.ext_0, C.ext_1, C.ext3_0, C.ext3_1, C.ext3_2, C.guarded_yes, C.guarded_tf, C.guarded_ft, C.guarded_undef, Bool.not_true, Bool.not_false, Nat.zero_add, eq_self, decide_true, decide_false]
    refine Objects_c (hl.keep (hf.trans hf1)) hr fun c' m' sv w2 hc' hf2 hs2 => ?_
    obtain ⟨rfl, rfl⟩ := hc.det hc'
    refine Ints_c hs2 ((ho.rd.keep hf1).keep hf2) fun w3 hf3 => ?_
    rw [decide_eq_true rfl]
    try simp only [C.ite_true, C.ite_false, C.pick_true, C.pick_false, C.not_bool, C.field_ptr, C.nilCheck_ptr, C.add_mk, C.sub_mk, C.mul_mk, C.eql_mk, C.neq_mk, C.lss_mk, C.leq_mk, C.gtr_mk, C.geq_mk, C.conv_mk, C.len_mk, C.ext_0, C.ext_1, C.ext3_0, C.ext3_1, C.ext3_2, C.guarded_yes, C.guarded_tf, C.guarded_ft, C.guarded_undef, Bool.not_true, Bool.not_false, Nat.zero_add, eq_self, decide_true, decide_false]
    exact h w3 (hf.trans (hf1.trans (hf2.trans hf3)))
  | succ d ih =>
    intro j w av hj hf hn ho
    have jm : j < m.length := by omega
    refine F3.l8.to ((hM.keep hf).lenC ?_)
    simp only [C.ite_true, C.ite_false, C.pick_true, C.pick_false, C.not_bool, C.field_ptr, C.nilCheck_ptr, C.add_mk, C.sub_mk, C.mul_mk, C.eql_mk, C.neq_mk, C.lss_mk, C.leq_mk, C.gtr_mk, C.geq_mk, C.conv_mk, C.len_mk, C.ext_0, C.ext_1, C.ext3_0, C.ext3_1, C.ext3_2, C.guarded_yes, C.guarded_tf, C.guarded_ft, C.guarded_undef, Bool.not_true, Bool.not_false, Nat.zero_add, eq_self, decide_true, decide_false, show ((j : Int) < (m.length : Int)) by omega]
    refine F3.k10.to (ObsAt.get0 hM hf jm fun g o cs e fz fv hg h0 _ _ _ => ?_)
    simp only [C.ite_true, C.ite_false, C.pick_true, C.pick_false, C.not_bool, C.field_ptr, C.nilCheck_ptr, C.add_mk, C.sub_mk, C.mul_mk, C.eql_mk, C.neq_mk, C.lss_mk, C.leq_mk, C.gtr_mk, C.geq_mk, C.conv_mk, C.len_mk, C.ext_0, C.ext_1, C.ext3_0, C.ext3_1, C.ext3_2, C.guarded_yes, C.guarded_tf, C.guarded_ft, C.guarded_undef, Bool.not_true, Bool.not_false, Nat.zero_add, eq_self, decide_true, decide_false]
    refine C.load1_of hg h0 ?_
    refine C.appI hf hn ho (by rw [atL_len]; simp; omega) fun av' w1 hf1 hn1 ho1 _ _ => ?_
    refine F3.k9.to ?_
    simp only [C.ite_true, C.ite_false, C.pick_true, C.pick_false, C.not_bool, C.field_ptr, C.nilCheck_ptr, C.add_mk, C.sub_mk, C.mul_mk, C.eql_mk, C.neq_mk, C.lss_mk, C.leq_mk, C.gtr_mk, C.geq_mk, C.conv_mk, C.len_mk, C.ext_0, C.ext_1, C.ext3_0, C.ext3_1, C.ext3_2, C.guarded_yes, C.guarded_tf, C.guarded_ft, C.guarded_undef, Bool.not_true, Bool.not_false, Nat.zero_add, eq_self, decide_true, decide_false]
    rw [wrap64_id (n := (j : Int) + 1) (by omega), show (j : Int) + 1 = ((j + 1 : Nat) : Int) by omega]
    refine ih (j + 1) w1 av' (by omega) hf1 hn1 ?_
    rw [List.take_succ_eq_append_getElem jm, atL_app]
    exact ho1
theorem rng_of {l : List Int} (h : ∀ n ∈ l, (Lit.int .i64 n).wf = true) : Rng l := fun n hn => by
  have := h n hn
  simp only [Lit.wf, Bool.and_eq_true, decide_eq_true_eq] at this
  have e1 : IntKind.i64.min = -9223372036854775808 := by decide
  have e2 : IntKind.i64.max = 9223372036854775807 := by decide
  omega
theorem EvacChecks_c {lv : Value} {l : List Int} (hl : RdS w lv 1 (intC l)) (hr : Rng l) (h : ∀ w', Fr [] w w' → K (.bool true) w') : C.call Try.prog 3 #[lv] w K := by
  refine F3.sh (alive37_c fun w1 hf1 => ?_)
  simp only [C.ite_true, C.ite_false, C.pick_true, C.pick_false, C.not_bool, C.field_ptr, C.nilCheck_ptr, C.add_mk, C.sub_mk, C.mul_mk, C.eql_mk, C.neq_mk, C.lss_mk, C.leq_mk, C.gtr_mk, C.geq_mk, C.conv_mk, C.len_mk, C.ext_0, C.ext_1, C.ext3_0, C.ext3_1, C.ext3_2, C.guarded_yes, C.guarded_tf, C.guarded_ft, C.guarded_undef, Bool.not_true, Bool.not_false, Nat.zero_add, eq_self, decide_true, decide_false]
  have hl1 := hl.keep hf1
  refine F3.k3.to (C.len_rd hl1 ?_)
  rw [intC_len]
  by_cases c : (l.length : Int) > 2048
  · have c5 : Cd l 5 [] := .inl ⟨rfl, by omega, rfl⟩
    simp only [C.ite_true, C.ite_false, C.pick_true, C.pick_false, C.not_bool, C.field_ptr, C.nilCheck_ptr, C.add_mk, C.sub_mk, C.mul_mk, C.eql_mk, C.neq_mk, C.lss_mk, C.leq_mk, C.gtr_mk, C.geq_mk, C.conv_mk, C.len_mk, C.ext_0, C.ext_1, C.ext3_0, C.ext3_1, C.ext3_2, C.guarded_yes, C.guarded_tf, C.guarded_ft, C.guarded_undef, Bool.not_true, Bool.not_false, Nat.zero_add, eq_self, decide_true, decide_false, c]
    refine ECheck_c hl1 hr fun c' m' w2 hc' hf2 => ?_
    obtain ⟨rfl, rfl⟩ := c5.det hc'
    simp only [C.ite_true, C.ite_false, C.pick_true, C.pick_false, C.not_bool, C.field_ptr, C.nilCheck_ptr, C.add_mk, C.sub_mk, C.mul_mk, C.eql_mk, C.neq_mk, C.lss_mk, C.leq_mk, C.gtr_mk, C.geq_mk, C.conv_mk, C.len_mk, C.ext_0, C.ext_1, C.ext3_0, C.ext3_1, C.ext3_2, C.guarded_yes, C.guarded_tf, C.guarded_ft, C.guarded_undef, Bool.not_true, Bool.not_false, Nat.zero_add, eq_self, decide_true, decide_false]
    refine Objects_c (hl1.keep hf2) hr fun c' m' sv w3 hc' hf3 hs3 => ?_
    obtain ⟨rfl, rfl⟩ := c5.det hc'
    refine C.len_rd hs3 ?_
    rw [show (((intC (atL [])).length : Nat) : Int) = 0 from rfl]
    simp only [C.ite_true, C.ite_false, C.pick_true, C.pick_false, C.not_bool, C.field_ptr, C.nilCheck_ptr, C.add_mk, C.sub_mk, C.mul_mk, C.eql_mk, C.neq_mk, C.lss_mk, C.leq_mk, C.gtr_mk, C.geq_mk, C.conv_mk, C.len_mk, C.ext_0, C.ext_1, C.ext3_0, C.ext3_1, C.ext3_2, C.guarded_yes, C.guarded_tf, C.guarded_ft, C.guarded_undef, Bool.not_true, Bool.not_false, Nat.zero_add, eq_self, decide_true, decide_false]
    exact h w3 (hf1.trans (hf2.trans hf3))
  · simp only [C.ite_true, C.ite_false, C.pick_true, C.pick_false, C.not_bool, C.field_ptr, C.nilCheck_ptr, C.add_mk, C.sub_mk, C.mul_mk, C.eql_mk, C.neq_mk, C.lss_mk, C.leq_mk, C.gtr_mk, C.geq_mk, C.conv_mk, C.len_mk, C.ext_0, C.ext_1, C.ext3_0, C.ext3_1, C.ext3_2, C.guarded_yes, C.guarded_tf, C.guarded_ft, C.guarded_undef, Bool.not_true, Bool.not_false, Nat.zero_add, eq_self, decide_true, decide_false, c]
    refine F3.k5.to (ROpen_c hl1 hr fun c m fs mv w2 hc hf2 hM => ?_)
    simp only [C.ite_true, C.ite_false, C.pick_true, C.pick_false, C.not_bool, C.field_ptr, C.nilCheck_ptr, C.add_mk, C.sub_mk, C.mul_mk, C.eql_mk, C.neq_mk, C.lss_mk, C.leq_mk, C.gtr_mk, C.geq_mk, C.conv_mk, C.len_mk, C.ext_0, C.ext_1, C.ext3_0, C.ext3_1, C.ext3_2, C.guarded_yes, C.guarded_tf, C.guarded_ft, C.guarded_undef, Bool.not_true, Bool.not_false, Nat.zero_add, eq_self, decide_true, decide_false]
    have hml : m.length ≤ 2048 := by
      rcases hc with ⟨_, _, rfl⟩ | ⟨_, _, rfl, _⟩ | ⟨_, a, b, _⟩
      · simp
      · simp
      · have := b.len; omega
    exact checks_loop (hl1.keep hf2) hr hc hM hml (fun w' hf' => h w' (hf1.trans (hf2.trans hf'))) m.length 0 w2 (.slice none 0 0) (by omega) (Fr.refl _ _) (NewS.nil _) (OwnS.nil _ _ _)
theorem lay_rng {l roots : List Int} {m : List Ob} {o : List Nat} (hL : Lyd l m roots o) (hr : Rng l) : Rng (lay m o) := fun x hx => by
  have hF := hL.again
  obtain ⟨p, hp, hx⟩ := List.mem_flatMap.1 hx
  have pm := hL.pls.2 p hp
  rcases List.mem_cons.1 hx with rfl | hx
  · rw [hdA_get pm]
    have := hL.spl.fits _ (List.getElem_mem pm)
    unfold Ob.hd
    omega
  · obtain ⟨y, hy, rfl⟩ := List.mem_map.1 hx
    unfold movW
    cases e : wPl m y with
    | none =>
      rw [fsA_get pm] at hy
      exact hr.fs hL.spl pm y hy
    | some q =>
      have := hL.pos (hL.closed p hp y hy q e)
      simp only
      omega
theorem roots_rng {l roots : List Int} {m : List Ob} {o : List Nat} (hL : Lyd l m roots o) (hr : Rng roots) : Rng (roots.map (movW m o)) := fun x hx => by
  obtain ⟨y, hy, rfl⟩ := List.mem_map.1 hx
  unfold movW
  cases e : wPl m y with
  | none => exact hr y hy
  | some q =>
    have := hL.pos (hL.root y hy q e)
    simp only
    omega
theorem EvacAgain_c {lv rv : Value} {l roots : List Int} (hl : RdS w lv 1 (intC l)) (hr : Rng l) (hrv : RdS w rv 1 (intC roots)) (hrr : Rng roots) (h : ∀ w', Fr [] w w' → K (.bool true) w') : C.call Try.prog 6 #[lv, rv] w K := by
  refine F6.sh (alive37_c fun w1 hf1 => ?_)
  simp only [C.ite_true, C.ite_false, C.pick_true, C.pick_false, C.not_bool, C.field_ptr, C.nilCheck_ptr, C.add_mk, C.sub_mk, C.mul_mk, C.eql_mk, C.neq_mk, C.lss_mk, C.leq_mk, C.gtr_mk, C.geq_mk, C.conv_mk, C.len_mk, C.ext_0, C.ext_1, C.ext3_0, C.ext3_1, C.ext3_2, C.guarded_yes, C.guarded_tf, C.guarded_ft, C.guarded_undef, Bool.not_true, Bool.not_false, Nat.zero_add, eq_self, decide_true, decide_false]
  refine F6.k3.to (few_c (hl.keep hf1) hr fun lv l hl hr hlen => few_c (hrv.keep hf1) hrr fun rv roots hrv hrr hrlen => ?_)
  refine Copy_c hl hr hrv hrr (by omega) (fun c m w2 hc c0 hf2 => ?_) fun m tv hv w2 hc hf2 ht hh _ _ => ?_
  · simp only [C.ite_true, C.ite_false, C.pick_true, C.pick_false, C.not_bool, C.field_ptr, C.nilCheck_ptr, C.add_mk, C.sub_mk, C.mul_mk, C.eql_mk, C.neq_mk, C.lss_mk, C.leq_mk, C.gtr_mk, C.geq_mk, C.conv_mk, C.len_mk, C.ext_0, C.ext_1, C.ext3_0, C.ext3_1, C.ext3_2, C.guarded_yes, C.guarded_tf, C.guarded_ft, C.guarded_undef, Bool.not_true, Bool.not_false, Nat.zero_add, eq_self, decide_true, decide_false, c0, ne_eq, not_false_eq_true]
    exact h w2 (hf1.trans hf2)
  · simp only [C.ite_true, C.ite_false, C.pick_true, C.pick_false, C.not_bool, C.field_ptr, C.nilCheck_ptr, C.add_mk, C.sub_mk, C.mul_mk, C.eql_mk, C.neq_mk, C.lss_mk, C.leq_mk, C.gtr_mk, C.geq_mk, C.conv_mk, C.len_mk, C.ext_0, C.ext_1, C.ext3_0, C.ext3_1, C.ext3_2, C.guarded_yes, C.guarded_tf, C.guarded_ft, C.guarded_undef, Bool.not_true, Bool.not_false, Nat.zero_add, eq_self, decide_true, decide_false, ne_eq, not_true_eq_false]
    have hO := hc.opn
    have hL := hO.copy
    have hO2 := hL.opn
    have hL2 := hO2.copy
    refine F6.k7.to (Copy_c ht.rd (lay_rng hL hr) hh.rd (roots_rng hL hrr) (by simp; omega) (fun c m' w3 hc' c0 hf3 => absurd (hc'.det hO2.cr).1 c0) fun m' tv2 hv2 w3 hc' hf3 ht2 hh2 _ _ => ?_)
    obtain ⟨_, rfl⟩ := hc'.det hO2.cr
    rw [hO.copy_again, hL.lay_again] at ht2
    rw [hO.copy_again, hL.roots_again] at hh2
    simp only [C.ite_true, C.ite_false, C.pick_true, C.pick_false, C.not_bool, C.field_ptr, C.nilCheck_ptr, C.add_mk, C.sub_mk, C.mul_mk, C.eql_mk, C.neq_mk, C.lss_mk, C.leq_mk, C.gtr_mk, C.geq_mk, C.conv_mk, C.len_mk, C.ext_0, C.ext_1, C.ext3_0, C.ext3_1, C.ext3_2, C.guarded_yes, C.guarded_tf, C.guarded_ft, C.guarded_undef, Bool.not_true, Bool.not_false, Nat.zero_add, eq_self, decide_true, decide_false]
    have ht3 := ht.rd.keep hf3
    have hcd : Cd (lay m (ordO m roots)) 0 (cpy m (ordO m roots)) := .inr (.inr ⟨rfl, hO2.few, hO2.spl, hO2.fine⟩)
    refine ECheck_c ht3 (lay_rng hL hr) fun c m' w4 hc4 hf4 => ?_
    obtain ⟨rfl, _⟩ := hc4.det hcd
    simp only [C.ite_true, C.ite_false, C.pick_true, C.pick_false, C.not_bool, C.field_ptr, C.nilCheck_ptr, C.add_mk, C.sub_mk, C.mul_mk, C.eql_mk, C.neq_mk, C.lss_mk, C.leq_mk, C.gtr_mk, C.geq_mk, C.conv_mk, C.len_mk, C.ext_0, C.ext_1, C.ext3_0, C.ext3_1, C.ext3_2, C.guarded_yes, C.guarded_tf, C.guarded_ft, C.guarded_undef, Bool.not_true, Bool.not_false, Nat.zero_add, eq_self, decide_true, decide_false]
    refine WordsEq_c (ht2.rd.keep hf4) (ht3.keep hf4) fun w5 hf5 => ?_
    rw [decide_eq_true rfl]
    try simp only [C.ite_true, C.ite_false, C.pick_true, C.pick_false, C.not_bool, C.field_ptr, C.nilCheck_ptr, C.add_mk, C.sub_mk, C.mul_mk, C.eql_mk, C.neq_mk, C.lss_mk, C.leq_mk, C.gtr_mk, C.geq_mk, C.conv_mk, C.len_mk, C.ext_0, C.ext_1, C.ext3_0, C.ext3_1, C.ext3_2, C.guarded_yes, C.guarded_tf, C.guarded_ft, C.guarded_undef, Bool.not_true, Bool.not_false, Nat.zero_add, eq_self, decide_true, decide_false]
    have f25 := hf4.trans hf5
    refine WordsEq_c (hh2.rd.keep f25) ((hh.rd.keep hf3).keep f25) fun w6 hf6 => ?_
    rw [decide_eq_true rfl]
    try simp only [C.ite_true, C.ite_false, C.pick_true, C.pick_false, C.not_bool, C.field_ptr, C.nilCheck_ptr, C.add_mk, C.sub_mk, C.mul_mk, C.eql_mk, C.neq_mk, C.lss_mk, C.leq_mk, C.gtr_mk, C.geq_mk, C.conv_mk, C.len_mk, C.ext_0, C.ext_1, C.ext3_0, C.ext3_1, C.ext3_2, C.guarded_yes, C.guarded_tf, C.guarded_ft, C.guarded_undef, Bool.not_true, Bool.not_false, Nat.zero_add, eq_self, decide_true, decide_false]
    exact h w6 (hf1.trans (hf2.trans (hf3.trans (f25.trans hf6))))
end
end Go.Proofs.YtfjilngljnlkjaaV
namespace Go.Proofs.YtfjilngljnlkjaaV
open Go Go.Proofs Go.RowKit
set_option linter.unusedVariables false
set_option linter.unusedSimpArgs false
set_option maxRecDepth 10000
section
variable {K : VK} {w : World}
/-- What the reference answers. -/
theorem copies_ref {w : World} {rv tv hv mv : Value} {l roots : List Int} {m : List Ob} {fs : List Value} (hr : Rng l) (hrv : RdS w rv 1 (intC roots)) (hrr : Rng roots) (hrl : roots.length ≤ 17592186044415) (hO : Opn l m roots) (hM : ObsAt w mv m fs)
    (ht : RdS w tv 1 (intC (lay m (ordO m roots)))) (hh : RdS w hv 1 (intC (roots.map (movW m (ordO m roots))))) (h : ∀ w', Fr [] w w' → K (.bool true) w') : F4.k11 K rv tv hv (.int .i64 0) mv w := by
  have hro : ∀ o ∈ m, Rng o.fs := fun o ho => by
    obtain ⟨i, hi, rfl⟩ := List.getElem_of_mem ho
    exact hr.fs hO.spl hi
  have hml := hO.spl.len
  have hlen := hO.few
  refine F4.k11.to (Order_c hM hro hO.fine (by omega) hrv hrr hO.fr fun ov w1 hf1 _ ho1 => ?_)
  refine Lay_c (hM.keep hf1) hO.copy hr hrr hrl ho1.rd (hrv.keep hf1) fun tv2 hv2 w2 hf2 ht2 hh2 => ?_
  have f2 := hf1.trans hf2
  simp only [C.ite_true, C.ite_false, C.pick_true, C.pick_false, C.not_bool, C.field_ptr, C.nilCheck_ptr, C.add_mk, C.sub_mk, C.mul_mk, C.eql_mk, C.neq_mk, C.lss_mk, C.leq_mk, C.gtr_mk, C.geq_mk, C.conv_mk, C.len_mk, C.ext_0, C.ext_1, C.ext3_0, C.ext3_1, C.ext3_2, C.guarded_yes, C.guarded_tf, C.guarded_ft, C.guarded_undef, Bool.not_true, Bool.not_false, Nat.zero_add, eq_self, decide_true, decide_false]
  refine WordsEq_c (ht.keep f2) ht2.rd fun w3 hf3 => ?_
  rw [decide_eq_true rfl]
  simp only [C.ite_true, C.ite_false, C.pick_true, C.pick_false, C.not_bool, C.field_ptr, C.nilCheck_ptr, C.add_mk, C.sub_mk, C.mul_mk, C.eql_mk, C.neq_mk, C.lss_mk, C.leq_mk, C.gtr_mk, C.geq_mk, C.conv_mk, C.len_mk, C.ext_0, C.ext_1, C.ext3_0, C.ext3_1, C.ext3_2, C.guarded_yes, C.guarded_tf, C.guarded_ft, C.guarded_undef, Bool.not_true, Bool.not_false, Nat.zero_add, eq_self, decide_true, decide_false]
  refine WordsEq_c (hh.keep (f2.trans hf3)) (hh2.rd.keep hf3) fun w4 hf4 => ?_
  rw [decide_eq_true rfl]
  try simp only [C.ite_true, C.ite_false, C.pick_true, C.pick_false, C.not_bool, C.field_ptr, C.nilCheck_ptr, C.add_mk, C.sub_mk, C.mul_mk, C.eql_mk, C.neq_mk, C.lss_mk, C.leq_mk, C.gtr_mk, C.geq_mk, C.conv_mk, C.len_mk, C.ext_0, C.ext_1, C.ext3_0, C.ext3_1, C.ext3_2, C.guarded_yes, C.guarded_tf, C.guarded_ft, C.guarded_undef, Bool.not_true, Bool.not_false, Nat.zero_add, eq_self, decide_true, decide_false]
  exact h w4 (f2.trans (hf3.trans hf4))
theorem nilV (w : World) : IsV w (.slice none 0 0) (.slice none 0 0) ([], []) := ⟨⟨[], (OwnS.nil w 2 1).rd, rfl, fun i h => by simp at h⟩, ⟨[], rfl, (OwnS.nil w 2 2).rd, fun i h => by simp at h⟩⟩
theorem all_fineL {m : List Ob} {ws : List Int} : ws.all (fineW m) = true ↔ fineL m ws := all_fine
theorem EvacCopies_c {lv rv : Value} {l roots : List Int} (hl : RdS w lv 1 (intC l)) (hr : Rng l) (hrv : RdS w rv 1 (intC roots)) (hrr : Rng roots) (h : ∀ w', Fr [] w w' → K (.bool true) w') : C.call Try.prog 4 #[lv, rv] w K := by
  refine F4.sh (alive37_c fun w1 hf1 => ?_)
  simp only [C.ite_true, C.ite_false, C.pick_true, C.pick_false, C.not_bool, C.field_ptr, C.nilCheck_ptr, C.add_mk, C.sub_mk, C.mul_mk, C.eql_mk, C.neq_mk, C.lss_mk, C.leq_mk, C.gtr_mk, C.geq_mk, C.conv_mk, C.len_mk, C.ext_0, C.ext_1, C.ext3_0, C.ext3_1, C.ext3_2, C.guarded_yes, C.guarded_tf, C.guarded_ft, C.guarded_undef, Bool.not_true, Bool.not_false, Nat.zero_add, eq_self, decide_true, decide_false]
  refine F4.k3.to (few_c (hl.keep hf1) hr fun lv l hl hr hlen => few_c (hrv.keep hf1) hrr fun rv roots hrv hrr hrlen => ?_)
  -- what the view says behind a code that is not nought
  have viewN : ∀ (c : Int) (m : List Ob) (w2 : World), Cr l roots c m → c ≠ 0 → Fr [] w1 w2 → ∀ {K2 : VK}, (∀ w', Fr [] w1 w' → K2 (.tuple #[.agg #[.slice none 0 0, .slice none 0 0], .int .i64 c]) w') → C.call Try.prog 18 #[lv, rv] w2 K2 := by
    intro c m w2 hc c0 hf2 K2 hk
    refine EView_c (hl.keep hf2) hr (hrv.keep hf2) hrr (by omega) (fun c' m' w' hc' _ hf' => ?_) fun m' rows nodes w' hc' hf' _ => ?_
    · obtain ⟨rfl, _⟩ := hc.det hc'
      exact hk w' (hf2.trans hf')
    · exact absurd (hc.det hc').1 c0
  refine Copy_c hl hr hrv hrr (by omega) (fun c m w2 hc c0 hf2 => ?_) fun m tv hv w2 hc hf2 ht hh _ _ => ?_
  · simp only [C.ite_true, C.ite_false, C.pick_true, C.pick_false, C.not_bool, C.field_ptr, C.nilCheck_ptr, C.add_mk, C.sub_mk, C.mul_mk, C.eql_mk, C.neq_mk, C.lss_mk, C.leq_mk, C.gtr_mk, C.geq_mk, C.conv_mk, C.len_mk, C.ext_0, C.ext_1, C.ext3_0, C.ext3_1, C.ext3_2, C.guarded_yes, C.guarded_tf, C.guarded_ft, C.guarded_undef, Bool.not_true, Bool.not_false, Nat.zero_add, eq_self, decide_true, decide_false]
    refine ROpen_c (hl.keep hf2) hr fun c' m' fs mv w3 hc' hf3 hM3 => ?_
    have f13 := hf2.trans hf3
    simp only [C.ite_true, C.ite_false, C.pick_true, C.pick_false, C.not_bool, C.field_ptr, C.nilCheck_ptr, C.add_mk, C.sub_mk, C.mul_mk, C.eql_mk, C.neq_mk, C.lss_mk, C.leq_mk, C.gtr_mk, C.geq_mk, C.conv_mk, C.len_mk, C.ext_0, C.ext_1, C.ext3_0, C.ext3_1, C.ext3_2, C.guarded_yes, C.guarded_tf, C.guarded_ft, C.guarded_undef, Bool.not_true, Bool.not_false, Nat.zero_add, eq_self, decide_true, decide_false]
    by_cases c0' : c' = 0
    · subst c0'
      have hcr := hc
      rcases hc with ⟨a, b⟩ | ⟨rfl, a, b⟩ | ⟨rfl, _⟩
      · exact absurd (a.det hc').1 b
      · obtain ⟨_, rfl⟩ := a.det hc'
        simp only [C.ite_true, C.ite_false, C.pick_true, C.pick_false, C.not_bool, C.field_ptr, C.nilCheck_ptr, C.add_mk, C.sub_mk, C.mul_mk, C.eql_mk, C.neq_mk, C.lss_mk, C.leq_mk, C.gtr_mk, C.geq_mk, C.conv_mk, C.len_mk, C.ext_0, C.ext_1, C.ext3_0, C.ext3_1, C.ext3_2, C.guarded_yes, C.guarded_tf, C.guarded_ft, C.guarded_undef, Bool.not_true, Bool.not_false, Nat.zero_add, eq_self, decide_true, decide_false]
        refine Fine_c hM3 (hrv.keep f13) hrr fun w4 hf4 => ?_
        have e : roots.all (fineW m) = false := by
          cases g : roots.all (fineW m) with
          | false => rfl
          | true => exact absurd (all_fine.1 g) b
        rw [e]
        have f14 := f13.trans hf4
        simp only [C.ite_true, C.ite_false, C.pick_true, C.pick_false, C.not_bool, C.field_ptr, C.nilCheck_ptr, C.add_mk, C.sub_mk, C.mul_mk, C.eql_mk, C.neq_mk, C.lss_mk, C.leq_mk, C.gtr_mk, C.geq_mk, C.conv_mk, C.len_mk, C.ext_0, C.ext_1, C.ext3_0, C.ext3_1, C.ext3_2, C.guarded_yes, C.guarded_tf, C.guarded_ft, C.guarded_undef, Bool.not_true, Bool.not_false, Nat.zero_add, eq_self, decide_true, decide_false, ne_eq, show ¬ (4 : Int) = 0 by decide, not_false_eq_true]
        refine viewN 4 m w4 hcr (by decide) f14 fun w5 hf5 => ?_
        simp only [C.ite_true, C.ite_false, C.pick_true, C.pick_false, C.not_bool, C.field_ptr, C.nilCheck_ptr, C.add_mk, C.sub_mk, C.mul_mk, C.eql_mk, C.neq_mk, C.lss_mk, C.leq_mk, C.gtr_mk, C.geq_mk, C.conv_mk, C.len_mk, C.ext_0, C.ext_1, C.ext3_0, C.ext3_1, C.ext3_2, C.guarded_yes, C.guarded_tf, C.guarded_ft, C.guarded_undef, Bool.not_true, Bool.not_false, Nat.zero_add, eq_self, decide_true, decide_false]
        refine C.new_of fun b w6 hn6 => C.store_all (x := .agg #[.slice none 0 0, .slice none 0 0]) hn6.at_ rfl (by simp [Value.cells, Value.oneCell']) rfl fun w7 hu7 => ?_
        have i6 := hn6.is
        have f57 : Fr [] w5 w7 := hn6.fr.then hu7.fr fun z hz => .inr (by simp only [List.mem_singleton] at hz; omega)
        simp only [C.ite_true, C.ite_false, C.pick_true, C.pick_false, C.not_bool, C.field_ptr, C.nilCheck_ptr, C.add_mk, C.sub_mk, C.mul_mk, C.eql_mk, C.neq_mk, C.lss_mk, C.leq_mk, C.gtr_mk, C.geq_mk, C.conv_mk, C.len_mk, C.ext_0, C.ext_1, C.ext3_0, C.ext3_1, C.ext3_2, C.guarded_yes, C.guarded_tf, C.guarded_ft, C.guarded_undef, Bool.not_true, Bool.not_false, Nat.zero_add, eq_self, decide_true, decide_false, show ((0 : Nat) : Int) = 0 from rfl]
        refine C.load1_of (v := .slice none 0 0) hu7.at_ rfl ?_
        simp only [C.ite_true, C.ite_false, C.pick_true, C.pick_false, C.not_bool, C.field_ptr, C.nilCheck_ptr, C.add_mk, C.sub_mk, C.mul_mk, C.eql_mk, C.neq_mk, C.lss_mk, C.leq_mk, C.gtr_mk, C.geq_mk, C.conv_mk, C.len_mk, C.ext_0, C.ext_1, C.ext3_0, C.ext3_1, C.ext3_2, C.guarded_yes, C.guarded_tf, C.guarded_ft, C.guarded_undef, Bool.not_true, Bool.not_false, Nat.zero_add, eq_self, decide_true, decide_false, show ((0 : Nat) : Int) = 0 from rfl]
        refine C.load1_of (v := .slice none 0 0) hu7.at_ rfl ?_
        simp only [C.ite_true, C.ite_false, C.pick_true, C.pick_false, C.not_bool, C.field_ptr, C.nilCheck_ptr, C.add_mk, C.sub_mk, C.mul_mk, C.eql_mk, C.neq_mk, C.lss_mk, C.leq_mk, C.gtr_mk, C.geq_mk, C.conv_mk, C.len_mk, C.ext_0, C.ext_1, C.ext3_0, C.ext3_1, C.ext3_2, C.guarded_yes, C.guarded_tf, C.guarded_ft, C.guarded_undef, Bool.not_true, Bool.not_false, Nat.zero_add, eq_self, decide_true, decide_false, show ((0 : Nat) : Int) = 0 from rfl]
        exact h w7 (hf1.trans (hf5.trans f57))
      · exact absurd rfl c0
    · have ecc : c = c' := by
        rcases hc with ⟨a, b⟩ | ⟨rfl, a, b⟩ | ⟨rfl, _⟩
        · exact (a.det hc').1
        · exact absurd (a.det hc').1.symm c0'
        · exact absurd rfl c0
      subst ecc
      simp only [C.ite_true, C.ite_false, C.pick_true, C.pick_false, C.not_bool, C.field_ptr, C.nilCheck_ptr, C.add_mk, C.sub_mk, C.mul_mk, C.eql_mk, C.neq_mk, C.lss_mk, C.leq_mk, C.gtr_mk, C.geq_mk, C.conv_mk, C.len_mk, C.ext_0, C.ext_1, C.ext3_0, C.ext3_1, C.ext3_2, C.guarded_yes, C.guarded_tf, C.guarded_ft, C.guarded_undef, Bool.not_true, Bool.not_false, Nat.zero_add, eq_self, decide_true, decide_false, c0, ne_eq, not_false_eq_true]
      refine viewN c m w3 hc c0 f13 fun w5 hf5 => ?_
      simp only [C.ite_true, C.ite_false, C.pick_true, C.pick_false, C.not_bool, C.field_ptr, C.nilCheck_ptr, C.add_mk, C.sub_mk, C.mul_mk, C.eql_mk, C.neq_mk, C.lss_mk, C.leq_mk, C.gtr_mk, C.geq_mk, C.conv_mk, C.len_mk, C.ext_0, C.ext_1, C.ext3_0, C.ext3_1, C.ext3_2, C.guarded_yes, C.guarded_tf, C.guarded_ft, C.guarded_undef, Bool.not_true, Bool.not_false, Nat.zero_add, eq_self, decide_true, decide_false]
      refine C.new_of fun b w6 hn6 => C.store_all (x := .agg #[.slice none 0 0, .slice none 0 0]) hn6.at_ rfl (by simp [Value.cells, Value.oneCell']) rfl fun w7 hu7 => ?_
      have i6 := hn6.is
      have f57 : Fr [] w5 w7 := hn6.fr.then hu7.fr fun z hz => .inr (by simp only [List.mem_singleton] at hz; omega)
      simp only [C.ite_true, C.ite_false, C.pick_true, C.pick_false, C.not_bool, C.field_ptr, C.nilCheck_ptr, C.add_mk, C.sub_mk, C.mul_mk, C.eql_mk, C.neq_mk, C.lss_mk, C.leq_mk, C.gtr_mk, C.geq_mk, C.conv_mk, C.len_mk, C.ext_0, C.ext_1, C.ext3_0, C.ext3_1, C.ext3_2, C.guarded_yes, C.guarded_tf, C.guarded_ft, C.guarded_undef, Bool.not_true, Bool.not_false, Nat.zero_add, eq_self, decide_true, decide_false, show ((0 : Nat) : Int) = 0 from rfl]
      refine C.load1_of (v := .slice none 0 0) hu7.at_ rfl ?_
      simp only [C.ite_true, C.ite_false, C.pick_true, C.pick_false, C.not_bool, C.field_ptr, C.nilCheck_ptr, C.add_mk, C.sub_mk, C.mul_mk, C.eql_mk, C.neq_mk, C.lss_mk, C.leq_mk, C.gtr_mk, C.geq_mk, C.conv_mk, C.len_mk, C.ext_0, C.ext_1, C.ext3_0, C.ext3_1, C.ext3_2, C.guarded_yes, C.guarded_tf, C.guarded_ft, C.guarded_undef, Bool.not_true, Bool.not_false, Nat.zero_add, eq_self, decide_true, decide_false, show ((0 : Nat) : Int) = 0 from rfl]
      refine C.load1_of (v := .slice none 0 0) hu7.at_ rfl ?_
      simp only [C.ite_true, C.ite_false, C.pick_true, C.pick_false, C.not_bool, C.field_ptr, C.nilCheck_ptr, C.add_mk, C.sub_mk, C.mul_mk, C.eql_mk, C.neq_mk, C.lss_mk, C.leq_mk, C.gtr_mk, C.geq_mk, C.conv_mk, C.len_mk, C.ext_0, C.ext_1, C.ext3_0, C.ext3_1, C.ext3_2, C.guarded_yes, C.guarded_tf, C.guarded_ft, C.guarded_undef, Bool.not_true, Bool.not_false, Nat.zero_add, eq_self, decide_true, decide_false, show ((0 : Nat) : Int) = 0 from rfl]
      exact h w7 (hf1.trans (hf5.trans f57))
  · have hO := hc.opn
    simp only [C.ite_true, C.ite_false, C.pick_true, C.pick_false, C.not_bool, C.field_ptr, C.nilCheck_ptr, C.add_mk, C.sub_mk, C.mul_mk, C.eql_mk, C.neq_mk, C.lss_mk, C.leq_mk, C.gtr_mk, C.geq_mk, C.conv_mk, C.len_mk, C.ext_0, C.ext_1, C.ext3_0, C.ext3_1, C.ext3_2, C.guarded_yes, C.guarded_tf, C.guarded_ft, C.guarded_undef, Bool.not_true, Bool.not_false, Nat.zero_add, eq_self, decide_true, decide_false]
    refine ROpen_c (hl.keep hf2) hr fun c' m' fs mv w3 hc' hf3 hM3 => ?_
    have f13 := hf2.trans hf3
    have hcd : Cd l 0 m := .inr (.inr ⟨rfl, hO.few, hO.spl, hO.fine⟩)
    obtain ⟨rfl, rfl⟩ := hcd.det hc'
    simp only [C.ite_true, C.ite_false, C.pick_true, C.pick_false, C.not_bool, C.field_ptr, C.nilCheck_ptr, C.add_mk, C.sub_mk, C.mul_mk, C.eql_mk, C.neq_mk, C.lss_mk, C.leq_mk, C.gtr_mk, C.geq_mk, C.conv_mk, C.len_mk, C.ext_0, C.ext_1, C.ext3_0, C.ext3_1, C.ext3_2, C.guarded_yes, C.guarded_tf, C.guarded_ft, C.guarded_undef, Bool.not_true, Bool.not_false, Nat.zero_add, eq_self, decide_true, decide_false]
    refine Fine_c hM3 (hrv.keep f13) hrr fun w4 hf4 => ?_
    rw [all_fine.2 hO.fr]
    have f14 := f13.trans hf4
    simp only [C.ite_true, C.ite_false, C.pick_true, C.pick_false, C.not_bool, C.field_ptr, C.nilCheck_ptr, C.add_mk, C.sub_mk, C.mul_mk, C.eql_mk, C.neq_mk, C.lss_mk, C.leq_mk, C.gtr_mk, C.geq_mk, C.conv_mk, C.len_mk, C.ext_0, C.ext_1, C.ext3_0, C.ext3_1, C.ext3_2, C.guarded_yes, C.guarded_tf, C.guarded_ft, C.guarded_undef, Bool.not_true, Bool.not_false, Nat.zero_add, eq_self, decide_true, decide_false, ne_eq, not_true_eq_false]
    exact copies_ref hr (hrv.keep f14) hrr (by omega) hO (hM3.keep hf4) ((ht.rd.keep hf3).keep hf4) ((hh.rd.keep hf3).keep hf4) fun w' hf' => h w' (hf1.trans (f14.trans hf'))
end
end Go.Proofs.YtfjilngljnlkjaaV
namespace Go.Proofs.YtfjilngljnlkjaaV
open Go Go.Proofs Go.RowKit
set_option linter.unusedVariables false
set_option linter.unusedSimpArgs false
set_option maxRecDepth 10000
section
variable {K : VK} {w : World}
theorem rvalues_loop {W0 : World} {mv wv : Value} {m : List Ob} {fs : List Value} {ws : List Int} (hM : ObsAt W0 mv m fs) (hws : RdS W0 wv 1 (intC ws)) (hr : Rng ws) (hf : fineL m ws) (hwl : ws.length ≤ 8796093022207)
    (h : ∀ nv w', Fr [] W0 w' → NewS W0 nv → OwnS w' nv 75 2 (valC (ws.map (val m))) → K nv w') :
    ∀ (d j : Nat) (w : World) (nv : Value), ws.length = j + d → Fr [] W0 w → NewS W0 nv → OwnS w nv 75 2 (valC ((ws.take j).map (val m))) → F46.l3 K mv wv nv (.int .i64 (j : Int)) w := by
  intro d
  induction d with
  | zero =>
    intro j w nv hj hf0 hn ho
    refine F46.l3.to (C.len_rd hws ?_)
    rw [intC_len]
    simp only [C.ite_true, C.ite_false, C.pick_true, C.pick_false, C.not_bool, C.field_ptr, C.nilCheck_ptr, C.add_mk, C.sub_mk, C.mul_mk, C.eql_mk, C.neq_mk, C.lss_mk, C.leq_mk, C.gtr_mk, C.geq_mk, C.conv_mk, C.len_mk, C.ext_0, C.ext_1, C.ext3_0, C.ext3_1, C.ext3_2, C.guarded_yes, C.guarded_tf, C.guarded_ft, C.guarded_undef, Bool.not_true, Bool.not_false, Nat.zero_add, eq_self, decide_true, decide_false, show ¬ ((j : Int) < (ws.length : Int)) by omega]
    rw [List.take_of_length_le (by omega)] at ho
    exact F46.k9.to (h nv w hf0 hn ho)
  | succ d ih =>
    intro j w nv hj hf0 hn ho
    have jl : j < ws.length := by omega
    have hin := List.getElem_mem jl
    have hfx := hf _ hin
    have ok := fine_ok hfx
    refine F46.l3.to (C.len_rd hws ?_)
    rw [intC_len]
    simp only [C.ite_true, C.ite_false, C.pick_true, C.pick_false, C.not_bool, C.field_ptr, C.nilCheck_ptr, C.add_mk, C.sub_mk, C.mul_mk, C.eql_mk, C.neq_mk, C.lss_mk, C.leq_mk, C.gtr_mk, C.geq_mk, C.conv_mk, C.len_mk, C.ext_0, C.ext_1, C.ext3_0, C.ext3_1, C.ext3_2, C.guarded_yes, C.guarded_tf, C.guarded_ft, C.guarded_undef, Bool.not_true, Bool.not_false, Nat.zero_add, eq_self, decide_true, decide_false, show ((j : Int) < (ws.length : Int)) by omega]
    refine F46.k5.to (C.idx_int (hws.keep hf0) jl fun g oo cs e fz hg hv => C.load1_of hg hv (RefRead_c _ (hr _ hin) (fun hc w1 hf1 => ?_) (fun hc w1 hf1 => absurd (of_decide_eq_true ok) hc)))
    simp only [C.ite_true, C.ite_false, C.pick_true, C.pick_false, C.not_bool, C.field_ptr, C.nilCheck_ptr, C.add_mk, C.sub_mk, C.mul_mk, C.eql_mk, C.neq_mk, C.lss_mk, C.leq_mk, C.gtr_mk, C.geq_mk, C.conv_mk, C.len_mk, C.ext_0, C.ext_1, C.ext3_0, C.ext3_1, C.ext3_2, C.guarded_yes, C.guarded_tf, C.guarded_ft, C.guarded_undef, Bool.not_true, Bool.not_false, Nat.zero_add, eq_self, decide_true, decide_false]
    refine readPut fun b w2 hf2 lo2 hb => ?_
    have f2 := hf0.trans (hf1.trans hf2)
    have ho2 := (ho.keep hf1 (by simp)).keep hf2 (by simp)
    have hlob : W0.heap.size ≤ b := by have := hf0.size; have := hf1.size; omega
    try simp only [C.ite_true, C.ite_false, C.pick_true, C.pick_false, C.not_bool, C.field_ptr, C.nilCheck_ptr, C.add_mk, C.sub_mk, C.mul_mk, C.eql_mk, C.neq_mk, C.lss_mk, C.leq_mk, C.gtr_mk, C.geq_mk, C.conv_mk, C.len_mk, C.ext_0, C.ext_1, C.ext3_0, C.ext3_1, C.ext3_2, C.guarded_yes, C.guarded_tf, C.guarded_ft, C.guarded_undef, Bool.not_true, Bool.not_false, Nat.zero_add, eq_self, decide_true, decide_false]
    refine C.load1_of (v := .int .i64 (rdK ws[j])) hb rfl ?_
    have nx : ∀ (k n : Int) (w3 : World), Fr [b] w2 w3 → w3.heap[b]? = some (vB k n) → (k, n) = val m ws[j] → F46.k8 K mv wv nv (.int .i64 (j : Int)) (.pointer (some ⟨b, 0, none⟩)) w3 := by
      intro k n w3 hf3 hb3 he
      have f3 : Fr [] W0 w3 := f2.then hf3 fun z hz => .inr (by simp only [List.mem_singleton] at hz; omega)
      have ho3 := ho2.keep hf3 fun g hg hgb => by
        simp only [List.mem_singleton] at hgb
        subst hgb
        have := (ho.keep hf1 (by simp)).lt hg
        omega
      refine F46.k8.to (C.loadA_all hb3 rfl ?_)
      refine C.appV (x := (k, n)) f3 hn ho3 (by simp; omega) fun nv' w4 hf4 hn4 ho4 _ _ => ?_
      refine F46.k4.to ?_
      simp only [C.ite_true, C.ite_false, C.pick_true, C.pick_false, C.not_bool, C.field_ptr, C.nilCheck_ptr, C.add_mk, C.sub_mk, C.mul_mk, C.eql_mk, C.neq_mk, C.lss_mk, C.leq_mk, C.gtr_mk, C.geq_mk, C.conv_mk, C.len_mk, C.ext_0, C.ext_1, C.ext3_0, C.ext3_1, C.ext3_2, C.guarded_yes, C.guarded_tf, C.guarded_ft, C.guarded_undef, Bool.not_true, Bool.not_false, Nat.zero_add, eq_self, decide_true, decide_false]
      rw [wrap64_id (n := (j : Int) + 1) (by omega), show (j : Int) + 1 = ((j + 1 : Nat) : Int) by omega]
      refine ih (j + 1) w4 nv' (by omega) hf4 hn4 ?_
      rw [take_snoc jl, List.map_append, List.map_singleton, ← he]
      exact ho4
    by_cases k2 : rdK ws[j] = 2
    · have hw : wRef ws[j] = some (rdN ws[j]).toNat := by unfold wRef; rw [if_pos ⟨hc, k2⟩]
      have hn2 := (wRef_ok hw).2.2
      obtain ⟨p, hp, hwp⟩ := fine_pl hfx hw
      have pm := wPl_lt hwp
      simp only [C.ite_true, C.ite_false, C.pick_true, C.pick_false, C.not_bool, C.field_ptr, C.nilCheck_ptr, C.add_mk, C.sub_mk, C.mul_mk, C.eql_mk, C.neq_mk, C.lss_mk, C.leq_mk, C.gtr_mk, C.geq_mk, C.conv_mk, C.len_mk, C.ext_0, C.ext_1, C.ext3_0, C.ext3_1, C.ext3_2, C.guarded_yes, C.guarded_tf, C.guarded_ft, C.guarded_undef, Bool.not_true, Bool.not_false, Nat.zero_add, eq_self, decide_true, decide_false, k2]
      refine C.load1_of (v := .int .i64 (rdN ws[j])) hb rfl ?_
      rw [hn2]
      refine Find_c (hM.keep f2) ?_
      have e : plI m (rdN ws[j]).toNat = (p : Int) := by unfold plI; rw [hp]
      rw [e]
      refine ObsAt.get0 hM f2 pm fun g o cs e fz fv hg _ h1 _ _ => ?_
      simp only [C.ite_true, C.ite_false, C.pick_true, C.pick_false, C.not_bool, C.field_ptr, C.nilCheck_ptr, C.add_mk, C.sub_mk, C.mul_mk, C.eql_mk, C.neq_mk, C.lss_mk, C.leq_mk, C.gtr_mk, C.geq_mk, C.conv_mk, C.len_mk, C.ext_0, C.ext_1, C.ext3_0, C.ext3_1, C.ext3_2, C.guarded_yes, C.guarded_tf, C.guarded_ft, C.guarded_undef, Bool.not_true, Bool.not_false, Nat.zero_add, eq_self, decide_true, decide_false]
      refine C.load1_of hg h1 (C.store1_of hb rfl rfl (by simp) fun w5 hu5 => ?_)
      refine nx 2 m[p].ser w5 hu5.fr (by have := hu5.at_; rw [k2] at this; exact this) ?_
      unfold val; rw [hwp]; simp only [serA_get pm]
    · have hw : wRef ws[j] = none := by unfold wRef; rw [if_neg fun c => k2 c.2]
      simp only [C.ite_true, C.ite_false, C.pick_true, C.pick_false, C.not_bool, C.field_ptr, C.nilCheck_ptr, C.add_mk, C.sub_mk, C.mul_mk, C.eql_mk, C.neq_mk, C.lss_mk, C.leq_mk, C.gtr_mk, C.geq_mk, C.conv_mk, C.len_mk, C.ext_0, C.ext_1, C.ext3_0, C.ext3_1, C.ext3_2, C.guarded_yes, C.guarded_tf, C.guarded_ft, C.guarded_undef, Bool.not_true, Bool.not_false, Nat.zero_add, eq_self, decide_true, decide_false, k2]
      refine nx (rdK ws[j]) (rdN ws[j]) w2 (Fr.refl _ _) hb ?_
      unfold val; rw [wPl_none hw]
theorem rvalues_c {mv wv : Value} {m : List Ob} {fs : List Value} {ws : List Int} (hM : ObsAt w mv m fs) (hws : RdS w wv 1 (intC ws)) (hr : Rng ws) (hf : fineL m ws) (hwl : ws.length ≤ 8796093022207)
    (h : ∀ nv w', Fr [] w w' → NewS w nv → OwnS w' nv 75 2 (valC (ws.map (val m))) → K nv w') : C.call Try.prog 46 #[mv, wv] w K :=
  F46.sh (rvalues_loop hM hws hr hf hwl h ws.length 0 w (.slice none 0 0) (by omega) (Fr.refl _ _) (NewS.nil _) (OwnS.nil _ _ _))
end
end Go.Proofs.YtfjilngljnlkjaaV
