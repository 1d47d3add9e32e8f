/- The pages' own example, and the first laws of images. -/
import Derived.Test.YtfjilngljnlkjaaEv14
import Derived.Test.YtfjilngljnlkjaaEv10
import Derived.Test.YtfjilngljnlkjaaVm
import Derived.Test.YtfjilngljnlkjaaGLawE
namespace Go.Proofs.YtfjilngljnlkjaaV
open Go Go.Proofs Go.RowKit
set_option linter.unusedVariables false
set_option linter.unusedSimpArgs false
set_option maxRecDepth 10000
section
variable {K : VK} {w : World}
/-! ### 1. Literals -/
theorem bsW1 (a : Int) : (Instr.buildSlice 22 1 #[(0, .int .i64 a)]).run Try.prog w = .ok (.slice (some ⟨w.heap.size, 0, none⟩) 1 1) (w.alloc (.cells #[.int .i64 a] 2)) := by kernel_rfl
theorem bsW2 (a b : Int) : (Instr.buildSlice 22 2 #[(0, .int .i64 a), (1, .int .i64 b)]).run Try.prog w = .ok (.slice (some ⟨w.heap.size, 0, none⟩) 2 2) (w.alloc (.cells #[.int .i64 a, .int .i64 b] 2)) := by kernel_rfl
theorem bsW3 (a b c : Int) : (Instr.buildSlice 22 3 #[(0, .int .i64 a), (1, .int .i64 b), (2, .int .i64 c)]).run Try.prog w = .ok (.slice (some ⟨w.heap.size, 0, none⟩) 3 3) (w.alloc (.cells #[.int .i64 a, .int .i64 b, .int .i64 c] 2)) := by kernel_rfl
theorem bsN2 (a b : Int) : (Instr.buildSlice 26 2 #[(0, .int .i64 a), (1, .int .i64 b)]).run Try.prog w = .ok (.slice (some ⟨w.heap.size, 0, none⟩) 2 2) (w.alloc (.cells #[.int .i64 a, .int .i64 b] 3)) := by kernel_rfl
theorem C.litW1 {a : Int} (hk : ∀ v w', Fr [] w w' → RdS w' v 1 (intC [a]) → K v w') : C.run Try.prog (Instr.buildSlice 22 1 #[(0, .int .i64 a)]) w K := by
  have hw := New.mk' w (.cells #[.int .i64 a] 2)
  exact C.run_of (bsW1 a) (hk _ _ hw.fr (RdS.of_block hw.at_ rfl (by simp) (by simp) (by simp [intC]) (by simp [intC])))
theorem C.litW2 {a b : Int} (hk : ∀ v w', Fr [] w w' → RdS w' v 1 (intC [a, b]) → K v w') : C.run Try.prog (Instr.buildSlice 22 2 #[(0, .int .i64 a), (1, .int .i64 b)]) w K := by
  have hw := New.mk' w (.cells #[.int .i64 a, .int .i64 b] 2)
  exact C.run_of (bsW2 a b) (hk _ _ hw.fr (RdS.of_block hw.at_ rfl (by simp) (by simp) (by simp [intC]) (by simp [intC])))
theorem C.litW3 {a b c : Int} (hk : ∀ v w', Fr [] w w' → RdS w' v 1 (intC [a, b, c]) → K v w') : C.run Try.prog (Instr.buildSlice 22 3 #[(0, .int .i64 a), (1, .int .i64 b), (2, .int .i64 c)]) w K := by
  have hw := New.mk' w (.cells #[.int .i64 a, .int .i64 b, .int .i64 c] 2)
  exact C.run_of (bsW3 a b c) (hk _ _ hw.fr (RdS.of_block hw.at_ rfl (by simp) (by simp) (by simp [intC]) (by simp [intC])))
theorem C.litN2 {a b : Int} (hk : ∀ v w', Fr [] w w' → RdS w' v 1 (intC [a, b]) → K v w') : C.run Try.prog (Instr.buildSlice 26 2 #[(0, .int .i64 a), (1, .int .i64 b)]) w K := by
  have hw := New.mk' w (.cells #[.int .i64 a, .int .i64 b] 3)
  exact C.run_of (bsN2 a b) (hk _ _ hw.fr (RdS.of_block hw.at_ rfl (by simp) (by simp) (by simp [intC]) (by simp [intC])))
/-! ### 2. The example -/
def exM : List Ob := [⟨0, 0, [6]⟩, ⟨2, 1, []⟩]
theorem ex_spl : Spl 0 [1, 6, 128] exM := Spl.cons (o := ⟨0, 0, [6]⟩) rfl (by decide) (by decide) (by decide) (Spl.cons (o := ⟨2, 1, []⟩) rfl (by decide) (by decide) (by decide) Spl.nil)
theorem ex_fine : fineM exM := by unfold fineM fineL; decide +kernel
theorem ex_fr : fineL exM [6, 7] := by unfold fineL; decide +kernel
theorem ex_fr1 : fineL exM [6] := by unfold fineL; decide +kernel
theorem ex_opn : Opn [1, 6, 128] exM [6, 7] := ⟨ex_spl, by decide, ex_fine, ex_fr⟩
theorem ex_opn1 : Opn [1, 6, 128] exM [6] := ⟨ex_spl, by decide, ex_fine, ex_fr1⟩
theorem ex_cd : Cd [1, 6, 128] 0 exM := .inr (.inr ⟨rfl, by decide, ex_spl, ex_fine⟩)
theorem ex_lay : lay exM (ordO exM [6, 7]) = [128] := by decide +kernel
theorem ex_mov : [6, 7].map (movW exM (ordO exM [6, 7])) = [2, 7] := by decide +kernel
theorem ex_slO : slO exM [6] = [1] := by decide +kernel
theorem one_bad : ¬ ∃ m', Spl 0 [1] m' ∧ fineM m' := by
  rintro ⟨m', h, _⟩
  have key : ∀ (at_ : Nat) (l : List Int) (m' : List Ob), Spl at_ l m' → l ≠ [1] := by
    intro at_ l m' h e
    cases h with
    | nil => cases e
    | cons a b c d f =>
      rename_i o t m2
      have h1 : o.hd = 1 := by injection e
      have h2 : o.fs.length = 0 := by
        injection e with _ x
        have := congrArg List.length x
        simp only [List.length_append, List.length_nil] at this
        omega
      obtain ⟨i, j⟩ := hd_div d
      rw [h1, h2] at j
      exact absurd j (by decide)
  exact key _ _ _ h rfl
theorem Rng.lit3 : Rng [1, 6, 128] := by unfold Rng; decide
theorem vw_nodes {m : List Ob} {roots : List Int} {p : Nat} (h : ordO m roots = [p]) : (vwO m roots).2 = [nodeA m p] := by simp [vwO, h, srtS]
theorem alive37_c (h : ∀ w', Fr [] w w' → K (.bool true) w') : C.call Try.prog 10 #[] w K := by
  refine F10.sh (C.litW3 fun lv w1 hf1 hl1 => C.litW2 fun rv w2 hf2 hr2 => ?_)
  have hl2 := hl1.keep hf2
  have f2 := hf1.trans hf2
  refine Copy_c hl2 Rng.lit3 hr2 (by unfold Rng; decide) (by decide) (fun c m w3 hc c0 hf3 => absurd (hc.det ex_opn.cr).1 c0) fun m tv hv w3 hc hf3 ht hh _ _ => ?_
  obtain ⟨_, rfl⟩ := hc.det ex_opn.cr
  rw [ex_lay] at ht
  rw [ex_mov] at hh
  simp only [C.ite_true, C.ite_false, C.pick_true, C.pick_false, C.not_bool, C.field_ptr, C.nilCheck_ptr, C.add_mk, C.sub_mk, C.mul_mk, C.eql_mk, C.neq_mk, C.lss_mk, C.leq_mk, C.gtr_mk, C.geq_mk, C.conv_mk, C.len_mk, C.ext_0, C.ext_1, C.ext3_0, C.ext3_1, C.ext3_2, C.guarded_yes, C.guarded_tf, C.guarded_ft, C.guarded_undef, Bool.not_true, Bool.not_false, Nat.zero_add, eq_self, decide_true, decide_false]
  refine C.litW1 fun qv w4 hf4 hq4 => ?_
  have f34 := hf3.trans hf4
  refine EView_c (hl2.keep f34) Rng.lit3 hq4 (by unfold Rng; decide) (by decide) (fun c m w5 hc c0 hf5 => absurd (hc.det ex_opn1.cr).1 c0) fun m rows nodes w5 hc hf5 hV5 => ?_
  obtain ⟨_, rfl⟩ := hc.det ex_opn1.cr
  simp only [C.ite_true, C.ite_false, C.pick_true, C.pick_false, C.not_bool, C.field_ptr, C.nilCheck_ptr, C.add_mk, C.sub_mk, C.mul_mk, C.eql_mk, C.neq_mk, C.lss_mk, C.leq_mk, C.gtr_mk, C.geq_mk, C.conv_mk, C.len_mk, C.ext_0, C.ext_1, C.ext3_0, C.ext3_1, C.ext3_2, C.guarded_yes, C.guarded_tf, C.guarded_ft, C.guarded_undef, Bool.not_true, Bool.not_false, Nat.zero_add, eq_self, decide_true, decide_false]
  refine C.new_of fun b w6 hn6 => C.store_all (x := .agg #[rows, nodes]) hn6.at_ (by rw [hV5.cells]; rfl) hV5.ones rfl fun w7 hu7 => ?_
  have i6 := hn6.is
  have f57 : Fr [] w5 w7 := hn6.fr.then hu7.fr fun z hz => .inr (by simp only [List.mem_singleton] at hz; omega)
  have hb7 : VB w7 b rows nodes := by
    have := hu7.at_
    rw [hV5.cells] at this
    exact this
  have hV7 := hV5.keep f57
  have f47 := (hf4.trans hf5).trans f57
  simp only [C.ite_true, C.ite_false, C.pick_true, C.pick_false, C.not_bool, C.field_ptr, C.nilCheck_ptr, C.add_mk, C.sub_mk, C.mul_mk, C.eql_mk, C.neq_mk, C.lss_mk, C.leq_mk, C.gtr_mk, C.geq_mk, C.conv_mk, C.len_mk, C.ext_0, C.ext_1, C.ext3_0, C.ext3_1, C.ext3_2, C.guarded_yes, C.guarded_tf, C.guarded_ft, C.guarded_undef, Bool.not_true, Bool.not_false, Nat.zero_add, eq_self, decide_true, decide_false]
  refine C.litW1 fun v8 w8 hf8 h8 => WordsEq_c ((ht.rd.keep f47).keep hf8) h8 fun w9 hf9 => ?_
  rw [decide_eq_true rfl]
  simp only [C.ite_true, C.ite_false, C.pick_true, C.pick_false, C.not_bool, C.field_ptr, C.nilCheck_ptr, C.add_mk, C.sub_mk, C.mul_mk, C.eql_mk, C.neq_mk, C.lss_mk, C.leq_mk, C.gtr_mk, C.geq_mk, C.conv_mk, C.len_mk, C.ext_0, C.ext_1, C.ext3_0, C.ext3_1, C.ext3_2, C.guarded_yes, C.guarded_tf, C.guarded_ft, C.guarded_undef, Bool.not_true, Bool.not_false, Nat.zero_add, eq_self, decide_true, decide_false]
  have f79 := hf8.trans hf9
  refine C.litW2 fun v10 w10 hf10 h10 => WordsEq_c (((hh.rd.keep f47).keep f79).keep hf10) h10 fun w11 hf11 => ?_
  rw [decide_eq_true rfl]
  simp only [C.ite_true, C.ite_false, C.pick_true, C.pick_false, C.not_bool, C.field_ptr, C.nilCheck_ptr, C.add_mk, C.sub_mk, C.mul_mk, C.eql_mk, C.neq_mk, C.lss_mk, C.leq_mk, C.gtr_mk, C.geq_mk, C.conv_mk, C.len_mk, C.ext_0, C.ext_1, C.ext3_0, C.ext3_1, C.ext3_2, C.guarded_yes, C.guarded_tf, C.guarded_ft, C.guarded_undef, Bool.not_true, Bool.not_false, Nat.zero_add, eq_self, decide_true, decide_false]
  have f711 := f79.trans (hf10.trans hf11)
  have hb11 := hb7.keep f711 (by simp)
  have hV11 := hV7.keep f711
  have en : (vwO exM [6]).2 = [(1, [])] := by
    rw [vw_nodes (p := 1) (by decide +kernel)]
    decide +kernel
  have hN := hV11.nodes
  rw [en] at hN
  refine C.load1_of (v := nodes) hb11 rfl (hN.len ?_)
  rw [show (([((1 : Int), ([] : List Va))] : List Nd).length : Int) = 1 from rfl]
  simp only [C.ite_true, C.ite_false, C.pick_true, C.pick_false, C.not_bool, C.field_ptr, C.nilCheck_ptr, C.add_mk, C.sub_mk, C.mul_mk, C.eql_mk, C.neq_mk, C.lss_mk, C.leq_mk, C.gtr_mk, C.geq_mk, C.conv_mk, C.len_mk, C.ext_0, C.ext_1, C.ext3_0, C.ext3_1, C.ext3_2, C.guarded_yes, C.guarded_tf, C.guarded_ft, C.guarded_undef, Bool.not_true, Bool.not_false, Nat.zero_add, eq_self, decide_true, decide_false]
  refine C.load1_of (v := nodes) hb11 rfl ?_
  refine NodesAt.get (i := 0) hN (by decide) fun g o cs e fz f hg h0 h1 hr' => ?_
  simp only [C.ite_true, C.ite_false, C.pick_true, C.pick_false, C.not_bool, C.field_ptr, C.nilCheck_ptr, C.add_mk, C.sub_mk, C.mul_mk, C.eql_mk, C.neq_mk, C.lss_mk, C.leq_mk, C.gtr_mk, C.geq_mk, C.conv_mk, C.len_mk, C.ext_0, C.ext_1, C.ext3_0, C.ext3_1, C.ext3_2, C.guarded_yes, C.guarded_tf, C.guarded_ft, C.guarded_undef, Bool.not_true, Bool.not_false, Nat.zero_add, eq_self, decide_true, decide_false]
  refine C.load1_of hg h0 ?_
  simp only [List.getElem_cons_zero, C.ite_true, C.ite_false, C.pick_true, C.pick_false, C.not_bool, C.field_ptr, C.nilCheck_ptr, C.add_mk, C.sub_mk, C.mul_mk, C.eql_mk, C.neq_mk, C.lss_mk, C.leq_mk, C.gtr_mk, C.geq_mk, C.conv_mk, C.len_mk, C.ext_0, C.ext_1, C.ext3_0, C.ext3_1, C.ext3_2, C.guarded_yes, C.guarded_tf, C.guarded_ft, C.guarded_undef, Bool.not_true, Bool.not_false, Nat.zero_add, eq_self, decide_true, decide_false]
  have f211 := f34.trans (hf5.trans (f57.trans f711))
  refine Objects_c (hl2.keep f211) Rng.lit3 fun c m sv w12 hc hf12 hs12 => ?_
  obtain ⟨_, rfl⟩ := hc.det ex_cd
  refine C.litN2 fun v13 w13 hf13 h13 => Ints_c (hs12.keep hf13) h13 fun w14 hf14 => ?_
  rw [show decide (atL exM = [0, 2]) = true by decide]
  simp only [C.ite_true, C.ite_false, C.pick_true, C.pick_false, C.not_bool, C.field_ptr, C.nilCheck_ptr, C.add_mk, C.sub_mk, C.mul_mk, C.eql_mk, C.neq_mk, C.lss_mk, C.leq_mk, C.gtr_mk, C.geq_mk, C.conv_mk, C.len_mk, C.ext_0, C.ext_1, C.ext3_0, C.ext3_1, C.ext3_2, C.guarded_yes, C.guarded_tf, C.guarded_ft, C.guarded_undef, Bool.not_true, Bool.not_false, Nat.zero_add, eq_self, decide_true, decide_false]
  refine C.litW1 fun v15 w15 hf15 h15 => ECheck_c h15 (by unfold Rng; decide) fun c m w16 hc hf16 => ?_
  have ec : c = 16 := by
    rcases hc with ⟨a1, a2, a3⟩ | ⟨a1, a2, a3, a4⟩ | ⟨a1, a2, a3, a4⟩
    · exact absurd a2 (by decide)
    · exact a1
    · exact absurd ⟨_, a3, a4⟩ one_bad
  subst ec
  simp only [C.ite_true, C.ite_false, C.pick_true, C.pick_false, C.not_bool, C.field_ptr, C.nilCheck_ptr, C.add_mk, C.sub_mk, C.mul_mk, C.eql_mk, C.neq_mk, C.lss_mk, C.leq_mk, C.gtr_mk, C.geq_mk, C.conv_mk, C.len_mk, C.ext_0, C.ext_1, C.ext3_0, C.ext3_1, C.ext3_2, C.guarded_yes, C.guarded_tf, C.guarded_ft, C.guarded_undef, Bool.not_true, Bool.not_false, Nat.zero_add, eq_self, decide_true, decide_false]
  exact h w16 (f2.trans (f211.trans ((hf12.trans (hf13.trans hf14)).trans (hf15.trans hf16))))
/-! ### 3. A few -/
theorem few_c {lv : Value} {l : List Int} (hl : RdS w lv 1 (intC l)) (hr : Rng l) (h : ∀ v l', RdS w v 1 (intC l') → Rng l' → l'.length ≤ 300 → K v w) : C.call Try.prog 15 #[lv] w K := by
  refine F15.sh (C.len_rd hl ?_)
  rw [intC_len]
  obtain ⟨A, c, e, hA⟩ := hl
  by_cases g : (l.length : Int) > 300
  · simp only [C.ite_true, C.ite_false, C.pick_true, C.pick_false, C.not_bool, C.field_ptr, C.nilCheck_ptr, C.add_mk, C.sub_mk, C.mul_mk, C.eql_mk, C.neq_mk, C.lss_mk, C.leq_mk, C.gtr_mk, C.geq_mk, C.conv_mk, C.len_mk, C.ext_0, C.ext_1, C.ext3_0, C.ext3_1, C.ext3_2, C.guarded_yes, C.guarded_tf, C.guarded_ft, C.guarded_undef, Bool.not_true, Bool.not_false, Nat.zero_add, eq_self, decide_true, decide_false, g]
    have hl : RdS w lv 1 (intC l) := ⟨A, c, e, hA⟩
    have hc : (intC l).length ≤ c := hA.1
    rw [intC_len] at hc
    subst e
    refine C.run_of (sliceTo_run (sz := 1) A _ c .i64 300 Try.underlying22 (by kernel_rfl) (by omega) (by omega)) ?_
    have ht := hl.take 300 (by rw [intC_len]; omega)
    rw [show (intC l).take 300 = intC (l.take 300) by simp [intC]] at ht
    exact h _ (l.take 300) ht (fun x hx => hr x (List.mem_of_mem_take hx)) (by simp; omega)
  · simp only [C.ite_true, C.ite_false, C.pick_true, C.pick_false, C.not_bool, C.field_ptr, C.nilCheck_ptr, C.add_mk, C.sub_mk, C.mul_mk, C.eql_mk, C.neq_mk, C.lss_mk, C.leq_mk, C.gtr_mk, C.geq_mk, C.conv_mk, C.len_mk, C.ext_0, C.ext_1, C.ext3_0, C.ext3_1, C.ext3_2, C.guarded_yes, C.guarded_tf, C.guarded_ft, C.guarded_undef, Bool.not_true, Bool.not_false, Nat.zero_add, eq_self, decide_true, decide_false, g]
    exact F15.k3.to (h lv l ⟨A, c, e, hA⟩ hr (by omega))
end
end Go.Proofs.YtfjilngljnlkjaaV
