/- EvacCopies. -/
import Derived.Test.YtfjilngljnlkjaaEv16
import Derived.Test.YtfjilngljnlkjaaGLawE4
namespace Go.Proofs.YtfjilngljnlkjaaV
open Go Go.Proofs Go.RowKit
set_option linter.unusedVariables false
set_option linter.unusedSimpArgs false
set_option maxRecDepth 10000
section
variable {K : VK} {w : World}
/-- What the reference answers. -/
theorem copies_ref {w : World} {rv tv hv mv : Value} {l roots : List Int} {m : List Ob} {fs : List Value} (hr : Rng l) (hrv : RdS w rv 1 (intC roots)) (hrr : Rng roots) (hrl : roots.length ≤ 17592186044415) (hO : Opn l m roots) (hM : ObsAt w mv m fs)
    (ht : RdS w tv 1 (intC (lay m (ordO m roots)))) (hh : RdS w hv 1 (intC (roots.map (movW m (ordO m roots))))) (h : ∀ w', Fr [] w w' → K (.bool true) w') : F4.k11 K rv tv hv (.int .i64 0) mv w := by
  have hro : ∀ o ∈ m, Rng o.fs := fun o ho => by
    obtain ⟨i, hi, rfl⟩ := List.getElem_of_mem ho
    exact hr.fs hO.spl hi
  have hml := hO.spl.len
  have hlen := hO.few
  refine F4.k11.to (Order_c hM hro hO.fine (by omega) hrv hrr hO.fr fun ov w1 hf1 _ ho1 => ?_)
  refine Lay_c (hM.keep hf1) hO.copy hr hrr hrl ho1.rd (hrv.keep hf1) fun tv2 hv2 w2 hf2 ht2 hh2 => ?_
  have f2 := hf1.trans hf2
  simp only [C.ite_true, C.ite_false, C.pick_true, C.pick_false, C.not_bool, C.field_ptr, C.nilCheck_ptr, C.add_mk, C.sub_mk, C.mul_mk, C.eql_mk, C.neq_mk, C.lss_mk, C.leq_mk, C.gtr_mk, C.geq_mk, C.conv_mk, C.len_mk, C.ext_0, C.ext_1, C.ext3_0, C.ext3_1, C.ext3_2, C.guarded_yes, C.guarded_tf, C.guarded_ft, C.guarded_undef, Bool.not_true, Bool.not_false, Nat.zero_add, eq_self, decide_true, decide_false]
  refine WordsEq_c (ht.keep f2) ht2.rd fun w3 hf3 => ?_
  rw [decide_eq_true rfl]
  simp only [C.ite_true, C.ite_false, C.pick_true, C.pick_false, C.not_bool, C.field_ptr, C.nilCheck_ptr, C.add_mk, C.sub_mk, C.mul_mk, C.eql_mk, C.neq_mk, C.lss_mk, C.leq_mk, C.gtr_mk, C.geq_mk, C.conv_mk, C.len_mk, C.ext_0, C.ext_1, C.ext3_0, C.ext3_1, C.ext3_2, C.guarded_yes, C.guarded_tf, C.guarded_ft, C.guarded_undef, Bool.not_true, Bool.not_false, Nat.zero_add, eq_self, decide_true, decide_false]
  refine WordsEq_c (hh.keep (f2.trans hf3)) (hh2.rd.keep hf3) fun w4 hf4 => ?_
  rw [decide_eq_true rfl]
  try simp only [C.ite_true, C.ite_false, C.pick_true, C.pick_false, C.not_bool, C.field_ptr, C.nilCheck_ptr, C.add_mk, C.sub_mk, C.mul_mk, C.eql_mk, C.neq_mk, C.lss_mk, C.leq_mk, C.gtr_mk, C.geq_mk, C.conv_mk, C.len_mk, C.ext_0, C.ext_1, C.ext3_0, C.ext3_1, C.ext3_2, C.guarded_yes, C.guarded_tf, C.guarded_ft, C.guarded_undef, Bool.not_true, Bool.not_false, Nat.zero_add, eq_self, decide_true, decide_false]
  exact h w4 (f2.trans (hf3.trans hf4))
theorem nilV (w : World) : IsV w (.slice none 0 0) (.slice none 0 0) ([], []) := ⟨⟨[], (OwnS.nil w 2 1).rd, rfl, fun i h => by simp at h⟩, ⟨[], rfl, (OwnS.nil w 2 2).rd, fun i h => by simp at h⟩⟩
theorem all_fineL {m : List Ob} {ws : List Int} : ws.all (fineW m) = true ↔ fineL m ws := all_fine
theorem EvacCopies_c {lv rv : Value} {l roots : List Int} (hl : RdS w lv 1 (intC l)) (hr : Rng l) (hrv : RdS w rv 1 (intC roots)) (hrr : Rng roots) (h : ∀ w', Fr [] w w' → K (.bool true) w') : C.call Try.prog 4 #[lv, rv] w K := by
  refine F4.sh (alive37_c fun w1 hf1 => ?_)
  simp only [C.ite_true, C.ite_false, C.pick_true, C.pick_false, C.not_bool, C.field_ptr, C.nilCheck_ptr, C.add_mk, C.sub_mk, C.mul_mk, C.eql_mk, C.neq_mk, C.lss_mk, C.leq_mk, C.gtr_mk, C.geq_mk, C.conv_mk, C.len_mk, C.ext_0, C.ext_1, C.ext3_0, C.ext3_1, C.ext3_2, C.guarded_yes, C.guarded_tf, C.guarded_ft, C.guarded_undef, Bool.not_true, Bool.not_false, Nat.zero_add, eq_self, decide_true, decide_false]
  refine F4.k3.to (few_c (hl.keep hf1) hr fun lv l hl hr hlen => few_c (hrv.keep hf1) hrr fun rv roots hrv hrr hrlen => ?_)
  -- what the view says behind a code that is not nought
  have viewN : ∀ (c : Int) (m : List Ob) (w2 : World), Cr l roots c m → c ≠ 0 → Fr [] w1 w2 → ∀ {K2 : VK}, (∀ w', Fr [] w1 w' → K2 (.tuple #[.agg #[.slice none 0 0, .slice none 0 0], .int .i64 c]) w') → C.call Try.prog 18 #[lv, rv] w2 K2 := by
    intro c m w2 hc c0 hf2 K2 hk
    refine EView_c (hl.keep hf2) hr (hrv.keep hf2) hrr (by omega) (fun c' m' w' hc' _ hf' => ?_) fun m' rows nodes w' hc' hf' _ => ?_
    · obtain ⟨rfl, _⟩ := hc.det hc'
      exact hk w' (hf2.trans hf')
    · exact absurd (hc.det hc').1 c0
  refine Copy_c hl hr hrv hrr (by omega) (fun c m w2 hc c0 hf2 => ?_) fun m tv hv w2 hc hf2 ht hh _ _ => ?_
  · simp only [C.ite_true, C.ite_false, C.pick_true, C.pick_false, C.not_bool, C.field_ptr, C.nilCheck_ptr, C.add_mk, C.sub_mk, C.mul_mk, C.eql_mk, C.neq_mk, C.lss_mk, C.leq_mk, C.gtr_mk, C.geq_mk, C.conv_mk, C.len_mk, C.ext_0, C.ext_1, C.ext3_0, C.ext3_1, C.ext3_2, C.guarded_yes, C.guarded_tf, C.guarded_ft, C.guarded_undef, Bool.not_true, Bool.not_false, Nat.zero_add, eq_self, decide_true, decide_false]
    refine ROpen_c (hl.keep hf2) hr fun c' m' fs mv w3 hc' hf3 hM3 => ?_
    have f13 := hf2.trans hf3
    simp only [C.ite_true, C.ite_false, C.pick_true, C.pick_false, C.not_bool, C.field_ptr, C.nilCheck_ptr, C.add_mk, C.sub_mk, C.mul_mk, C.eql_mk, C.neq_mk, C.lss_mk, C.leq_mk, C.gtr_mk, C.geq_mk, C.conv_mk, C.len_mk, C.ext_0, C.ext_1, C.ext3_0, C.ext3_1, C.ext3_2, C.guarded_yes, C.guarded_tf, C.guarded_ft, C.guarded_undef, Bool.not_true, Bool.not_false, Nat.zero_add, eq_self, decide_true, decide_false]
    by_cases c0' : c' = 0
    · subst c0'
      have hcr := hc
      rcases hc with ⟨a, b⟩ | ⟨rfl, a, b⟩ | ⟨rfl, _⟩
      · exact absurd (a.det hc').1 b
      · obtain ⟨_, rfl⟩ := a.det hc'
        simp only [C.ite_true, C.ite_false, C.pick_true, C.pick_false, C.not_bool, C.field_ptr, C.nilCheck_ptr, C.add_mk, C.sub_mk, C.mul_mk, C.eql_mk, C.neq_mk, C.lss_mk, C.leq_mk, C.gtr_mk, C.geq_mk, C.conv_mk, C.len_mk, C.ext_0, C.ext_1, C.ext3_0, C.ext3_1, C.ext3_2, C.guarded_yes, C.guarded_tf, C.guarded_ft, C.guarded_undef, Bool.not_true, Bool.not_false, Nat.zero_add, eq_self, decide_true, decide_false]
        refine Fine_c hM3 (hrv.keep f13) hrr fun w4 hf4 => ?_
        have e : roots.all (fineW m) = false := by
          cases g : roots.all (fineW m) with
          | false => rfl
          | true => exact absurd (all_fine.1 g) b
        rw [e]
        have f14 := f13.trans hf4
        simp only [C.ite_true, C.ite_false, C.pick_true, C.pick_false, C.not_bool, C.field_ptr, C.nilCheck_ptr, C.add_mk, C.sub_mk, C.mul_mk, C.eql_mk, C.neq_mk, C.lss_mk, C.leq_mk, C.gtr_mk, C.geq_mk, C.conv_mk, C.len_mk, C.ext_0, C.ext_1, C.ext3_0, C.ext3_1, C.ext3_2, C.guarded_yes, C.guarded_tf, C.guarded_ft, C.guarded_undef, Bool.not_true, Bool.not_false, Nat.zero_add, eq_self, decide_true, decide_false, ne_eq, show ¬ (4 : Int) = 0 by decide, not_false_eq_true]
        refine viewN 4 m w4 hcr (by decide) f14 fun w5 hf5 => ?_
        simp only [C.ite_true, C.ite_false, C.pick_true, C.pick_false, C.not_bool, C.field_ptr, C.nilCheck_ptr, C.add_mk, C.sub_mk, C.mul_mk, C.eql_mk, C.neq_mk, C.lss_mk, C.leq_mk, C.gtr_mk, C.geq_mk, C.conv_mk, C.len_mk, C.ext_0, C.ext_1, C.ext3_0, C.ext3_1, C.ext3_2, C.guarded_yes, C.guarded_tf, C.guarded_ft, C.guarded_undef, Bool.not_true, Bool.not_false, Nat.zero_add, eq_self, decide_true, decide_false]
        refine C.new_of fun b w6 hn6 => C.store_all (x := .agg #[.slice none 0 0, .slice none 0 0]) hn6.at_ rfl (by simp [Value.cells, Value.oneCell']) rfl fun w7 hu7 => ?_
        have i6 := hn6.is
        have f57 : Fr [] w5 w7 := hn6.fr.then hu7.fr fun z hz => .inr (by simp only [List.mem_singleton] at hz; omega)
        simp only [C.ite_true, C.ite_false, C.pick_true, C.pick_false, C.not_bool, C.field_ptr, C.nilCheck_ptr, C.add_mk, C.sub_mk, C.mul_mk, C.eql_mk, C.neq_mk, C.lss_mk, C.leq_mk, C.gtr_mk, C.geq_mk, C.conv_mk, C.len_mk, C.ext_0, C.ext_1, C.ext3_0, C.ext3_1, C.ext3_2, C.guarded_yes, C.guarded_tf, C.guarded_ft, C.guarded_undef, Bool.not_true, Bool.not_false, Nat.zero_add, eq_self, decide_true, decide_false, show ((0 : Nat) : Int) = 0 from rfl]
        refine C.load1_of (v := .slice none 0 0) hu7.at_ rfl ?_
        simp only [C.ite_true, C.ite_false, C.pick_true, C.pick_false, C.not_bool, C.field_ptr, C.nilCheck_ptr, C.add_mk, C.sub_mk, C.mul_mk, C.eql_mk, C.neq_mk, C.lss_mk, C.leq_mk, C.gtr_mk, C.geq_mk, C.conv_mk, C.len_mk, C.ext_0, C.ext_1, C.ext3_0, C.ext3_1, C.ext3_2, C.guarded_yes, C.guarded_tf, C.guarded_ft, C.guarded_undef, Bool.not_true, Bool.not_false, Nat.zero_add, eq_self, decide_true, decide_false, show ((0 : Nat) : Int) = 0 from rfl]
        refine C.load1_of (v := .slice none 0 0) hu7.at_ rfl ?_
        simp only [C.ite_true, C.ite_false, C.pick_true, C.pick_false, C.not_bool, C.field_ptr, C.nilCheck_ptr, C.add_mk, C.sub_mk, C.mul_mk, C.eql_mk, C.neq_mk, C.lss_mk, C.leq_mk, C.gtr_mk, C.geq_mk, C.conv_mk, C.len_mk, C.ext_0, C.ext_1, C.ext3_0, C.ext3_1, C.ext3_2, C.guarded_yes, C.guarded_tf, C.guarded_ft, C.guarded_undef, Bool.not_true, Bool.not_false, Nat.zero_add, eq_self, decide_true, decide_false, show ((0 : Nat) : Int) = 0 from rfl]
        exact h w7 (hf1.trans (hf5.trans f57))
      · exact absurd rfl c0
    · have ecc : c = c' := by
        rcases hc with ⟨a, b⟩ | ⟨rfl, a, b⟩ | ⟨rfl, _⟩
        · exact (a.det hc').1
        · exact absurd (a.det hc').1.symm c0'
        · exact absurd rfl c0
      subst ecc
      simp only [C.ite_true, C.ite_false, C.pick_true, C.pick_false, C.not_bool, C.field_ptr, C.nilCheck_ptr, C.add_mk, C.sub_mk, C.mul_mk, C.eql_mk, C.neq_mk, C.lss_mk, C.leq_mk, C.gtr_mk, C.geq_mk, C.conv_mk, C.len_mk, C.ext_0, C.ext_1, C.ext3_0, C.ext3_1, C.ext3_2, C.guarded_yes, C.guarded_tf, C.guarded_ft, C.guarded_undef, Bool.not_true, Bool.not_false, Nat.zero_add, eq_self, decide_true, decide_false, c0, ne_eq, not_false_eq_true]
      refine viewN c m w3 hc c0 f13 fun w5 hf5 => ?_
      simp only [C.ite_true, C.ite_false, C.pick_true, C.pick_false, C.not_bool, C.field_ptr, C.nilCheck_ptr, C.add_mk, C.sub_mk, C.mul_mk, C.eql_mk, C.neq_mk, C.lss_mk, C.leq_mk, C.gtr_mk, C.geq_mk, C.conv_mk, C.len_mk, C.ext_0, C.ext_1, C.ext3_0, C.ext3_1, C.ext3_2, C.guarded_yes, C.guarded_tf, C.guarded_ft, C.guarded_undef, Bool.not_true, Bool.not_false, Nat.zero_add, eq_self, decide_true, decide_false]
      refine C.new_of fun b w6 hn6 => C.store_all (x := .agg #[.slice none 0 0, .slice none 0 0]) hn6.at_ rfl (by simp [Value.cells, Value.oneCell']) rfl fun w7 hu7 => ?_
      have i6 := hn6.is
      have f57 : Fr [] w5 w7 := hn6.fr.then hu7.fr fun z hz => .inr (by simp only [List.mem_singleton] at hz; omega)
      simp only [C.ite_true, C.ite_false, C.pick_true, C.pick_false, C.not_bool, C.field_ptr, C.nilCheck_ptr, C.add_mk, C.sub_mk, C.mul_mk, C.eql_mk, C.neq_mk, C.lss_mk, C.leq_mk, C.gtr_mk, C.geq_mk, C.conv_mk, C.len_mk, C.ext_0, C.ext_1, C.ext3_0, C.ext3_1, C.ext3_2, C.guarded_yes, C.guarded_tf, C.guarded_ft, C.guarded_undef, Bool.not_true, Bool.not_false, Nat.zero_add, eq_self, decide_true, decide_false, show ((0 : Nat) : Int) = 0 from rfl]
      refine C.load1_of (v := .slice none 0 0) hu7.at_ rfl ?_
      simp only [C.ite_true, C.ite_false, C.pick_true, C.pick_false, C.not_bool, C.field_ptr, C.nilCheck_ptr, C.add_mk, C.sub_mk, C.mul_mk, C.eql_mk, C.neq_mk, C.lss_mk, C.leq_mk, C.gtr_mk, C.geq_mk, C.conv_mk, C.len_mk, C.ext_0, C.ext_1, C.ext3_0, C.ext3_1, C.ext3_2, C.guarded_yes, C.guarded_tf, C.guarded_ft, C.guarded_undef, Bool.not_true, Bool.not_false, Nat.zero_add, eq_self, decide_true, decide_false, show ((0 : Nat) : Int) = 0 from rfl]
      refine C.load1_of (v := .slice none 0 0) hu7.at_ rfl ?_
      simp only [C.ite_true, C.ite_false, C.pick_true, C.pick_false, C.not_bool, C.field_ptr, C.nilCheck_ptr, C.add_mk, C.sub_mk, C.mul_mk, C.eql_mk, C.neq_mk, C.lss_mk, C.leq_mk, C.gtr_mk, C.geq_mk, C.conv_mk, C.len_mk, C.ext_0, C.ext_1, C.ext3_0, C.ext3_1, C.ext3_2, C.guarded_yes, C.guarded_tf, C.guarded_ft, C.guarded_undef, Bool.not_true, Bool.not_false, Nat.zero_add, eq_self, decide_true, decide_false, show ((0 : Nat) : Int) = 0 from rfl]
      exact h w7 (hf1.trans (hf5.trans f57))
  · have hO := hc.opn
    simp only [C.ite_true, C.ite_false, C.pick_true, C.pick_false, C.not_bool, C.field_ptr, C.nilCheck_ptr, C.add_mk, C.sub_mk, C.mul_mk, C.eql_mk, C.neq_mk, C.lss_mk, C.leq_mk, C.gtr_mk, C.geq_mk, C.conv_mk, C.len_mk, C.ext_0, C.ext_1, C.ext3_0, C.ext3_1, C.ext3_2, C.guarded_yes, C.guarded_tf, C.guarded_ft, C.guarded_undef, Bool.not_true, Bool.not_false, Nat.zero_add, eq_self, decide_true, decide_false]
    refine ROpen_c (hl.keep hf2) hr fun c' m' fs mv w3 hc' hf3 hM3 => ?_
    have f13 := hf2.trans hf3
    have hcd : Cd l 0 m := .inr (.inr ⟨rfl, hO.few, hO.spl, hO.fine⟩)
    obtain ⟨rfl, rfl⟩ := hcd.det hc'
    simp only [C.ite_true, C.ite_false, C.pick_true, C.pick_false, C.not_bool, C.field_ptr, C.nilCheck_ptr, C.add_mk, C.sub_mk, C.mul_mk, C.eql_mk, C.neq_mk, C.lss_mk, C.leq_mk, C.gtr_mk, C.geq_mk, C.conv_mk, C.len_mk, C.ext_0, C.ext_1, C.ext3_0, C.ext3_1, C.ext3_2, C.guarded_yes, C.guarded_tf, C.guarded_ft, C.guarded_undef, Bool.not_true, Bool.not_false, Nat.zero_add, eq_self, decide_true, decide_false]
    refine Fine_c hM3 (hrv.keep f13) hrr fun w4 hf4 => ?_
    rw [all_fine.2 hO.fr]
    have f14 := f13.trans hf4
    simp only [C.ite_true, C.ite_false, C.pick_true, C.pick_false, C.not_bool, C.field_ptr, C.nilCheck_ptr, C.add_mk, C.sub_mk, C.mul_mk, C.eql_mk, C.neq_mk, C.lss_mk, C.leq_mk, C.gtr_mk, C.geq_mk, C.conv_mk, C.len_mk, C.ext_0, C.ext_1, C.ext3_0, C.ext3_1, C.ext3_2, C.guarded_yes, C.guarded_tf, C.guarded_ft, C.guarded_undef, Bool.not_true, Bool.not_false, Nat.zero_add, eq_self, decide_true, decide_false, ne_eq, not_true_eq_false]
    exact copies_ref hr (hrv.keep f14) hrr (by omega) hO (hM3.keep hf4) ((ht.rd.keep hf3).keep hf4) ((hh.rd.keep hf3).keep hf4) fun w' hf' => h w' (hf1.trans (f14.trans hf'))
end
end Go.Proofs.YtfjilngljnlkjaaV
