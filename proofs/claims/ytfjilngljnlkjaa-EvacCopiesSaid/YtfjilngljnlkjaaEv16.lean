/- EvacChecks and EvacAgain. -/
import Derived.Test.YtfjilngljnlkjaaEv15
namespace Go.Proofs.YtfjilngljnlkjaaV
open Go Go.Proofs Go.RowKit
set_option linter.unusedVariables false
set_option linter.unusedSimpArgs false
set_option maxRecDepth 10000
section
variable {K : VK} {w : World}
theorem checks_loop {W0 : World} {lv mv : Value} {l : List Int} {m : List Ob} {fs : List Value} {c : Int} (hl : RdS W0 lv 1 (intC l)) (hr : Rng l) (hc : Cd l c m) (hM : ObsAt W0 mv m fs) (hml : m.length ≤ 2048)
    (h : ∀ w', Fr [] W0 w' → K (.bool true) w') :
    ∀ (d j : Nat) (w : World) (av : Value), m.length = j + d → Fr [] W0 w → NewS W0 av → OwnS w av 3 1 (intC (atL (m.take j))) → F3.l8 K lv mv (.int .i64 c) av (.int .i64 (j : Int)) w := by
  intro d
  induction d with
  | zero =>
    intro j w av hj hf hn ho
    refine F3.l8.to ((hM.keep hf).lenC ?_)
    simp only [C.ite_true, C.ite_false, C.pick_true, C.pick_false, C.not_bool, C.field_ptr, C.nilCheck_ptr, C.add_mk, C.sub_mk, C.mul_mk, C.eql_mk, C.neq_mk, C.lss_mk, C.leq_mk, C.gtr_mk, C.geq_mk, C.conv_mk, C.len_mk, C.ext_0, C.ext_1, C.ext3_0, C.ext3_1, C.ext3_2, C.guarded_yes, C.guarded_tf, C.guarded_ft, C.guarded_undef, Bool.not_true, Bool.not_false, Nat.zero_add, eq_self, decide_true, decide_false, show ¬ ((j : Int) < (m.length : Int)) by omega]
    rw [List.take_of_length_le (by omega)] at ho
    refine F3.k11.to (ECheck_c (hl.keep hf) hr fun c' m' w1 hc' hf1 => ?_)
    obtain ⟨rfl, rfl⟩ := hc.det hc'
    simp only [C.ite_true, C.ite_false, C.pick_true, C.pick_false, C.not_bool, C.field_ptr, C.nilCheck_ptr, C.add_mk, C.sub_mk, C.mul_mk, C.eql_mk, C.neq_mk, C.lss_mk, C.leq_mk, C.gtr_mk, C.geq_mk, C.conv_mk, C.len_mk, C.ext_0, C.ext_1, C.ext3_0, C.ext3_1, C.ext3_2, C.guarded_yes, C.guarded_tf, C.guarded_ft, C.guarded_undef, Bool.not_true, Bool.not_false, Nat.zero_add, eq_self, decide_true, decide_false]
    refine Objects_c (hl.keep (hf.trans hf1)) hr fun c' m' sv w2 hc' hf2 hs2 => ?_
    obtain ⟨rfl, rfl⟩ := hc.det hc'
    refine Ints_c hs2 ((ho.rd.keep hf1).keep hf2) fun w3 hf3 => ?_
    rw [decide_eq_true rfl]
    try simp only [C.ite_true, C.ite_false, C.pick_true, C.pick_false, C.not_bool, C.field_ptr, C.nilCheck_ptr, C.add_mk, C.sub_mk, C.mul_mk, C.eql_mk, C.neq_mk, C.lss_mk, C.leq_mk, C.gtr_mk, C.geq_mk, C.conv_mk, C.len_mk, C.ext_0, C.ext_1, C.ext3_0, C.ext3_1, C.ext3_2, C.guarded_yes, C.guarded_tf, C.guarded_ft, C.guarded_undef, Bool.not_true, Bool.not_false, Nat.zero_add, eq_self, decide_true, decide_false]
    exact h w3 (hf.trans (hf1.trans (hf2.trans hf3)))
  | succ d ih =>
    intro j w av hj hf hn ho
    have jm : j < m.length := by omega
    refine F3.l8.to ((hM.keep hf).lenC ?_)
    simp only [C.ite_true, C.ite_false, C.pick_true, C.pick_false, C.not_bool, C.field_ptr, C.nilCheck_ptr, C.add_mk, C.sub_mk, C.mul_mk, C.eql_mk, C.neq_mk, C.lss_mk, C.leq_mk, C.gtr_mk, C.geq_mk, C.conv_mk, C.len_mk, C.ext_0, C.ext_1, C.ext3_0, C.ext3_1, C.ext3_2, C.guarded_yes, C.guarded_tf, C.guarded_ft, C.guarded_undef, Bool.not_true, Bool.not_false, Nat.zero_add, eq_self, decide_true, decide_false, show ((j : Int) < (m.length : Int)) by omega]
    refine F3.k10.to (ObsAt.get0 hM hf jm fun g o cs e fz fv hg h0 _ _ _ => ?_)
    simp only [C.ite_true, C.ite_false, C.pick_true, C.pick_false, C.not_bool, C.field_ptr, C.nilCheck_ptr, C.add_mk, C.sub_mk, C.mul_mk, C.eql_mk, C.neq_mk, C.lss_mk, C.leq_mk, C.gtr_mk, C.geq_mk, C.conv_mk, C.len_mk, C.ext_0, C.ext_1, C.ext3_0, C.ext3_1, C.ext3_2, C.guarded_yes, C.guarded_tf, C.guarded_ft, C.guarded_undef, Bool.not_true, Bool.not_false, Nat.zero_add, eq_self, decide_true, decide_false]
    refine C.load1_of hg h0 ?_
    refine C.appI hf hn ho (by rw [atL_len]; simp; omega) fun av' w1 hf1 hn1 ho1 _ _ => ?_
    refine F3.k9.to ?_
    simp only [C.ite_true, C.ite_false, C.pick_true, C.pick_false, C.not_bool, C.field_ptr, C.nilCheck_ptr, C.add_mk, C.sub_mk, C.mul_mk, C.eql_mk, C.neq_mk, C.lss_mk, C.leq_mk, C.gtr_mk, C.geq_mk, C.conv_mk, C.len_mk, C.ext_0, C.ext_1, C.ext3_0, C.ext3_1, C.ext3_2, C.guarded_yes, C.guarded_tf, C.guarded_ft, C.guarded_undef, Bool.not_true, Bool.not_false, Nat.zero_add, eq_self, decide_true, decide_false]
    rw [wrap64_id (n := (j : Int) + 1) (by omega), show (j : Int) + 1 = ((j + 1 : Nat) : Int) by omega]
    refine ih (j + 1) w1 av' (by omega) hf1 hn1 ?_
    rw [List.take_succ_eq_append_getElem jm, atL_app]
    exact ho1
theorem rng_of {l : List Int} (h : ∀ n ∈ l, (Lit.int .i64 n).wf = true) : Rng l := fun n hn => by
  have := h n hn
  simp only [Lit.wf, Bool.and_eq_true, decide_eq_true_eq] at this
  have e1 : IntKind.i64.min = -9223372036854775808 := by decide
  have e2 : IntKind.i64.max = 9223372036854775807 := by decide
  omega
theorem EvacChecks_c {lv : Value} {l : List Int} (hl : RdS w lv 1 (intC l)) (hr : Rng l) (h : ∀ w', Fr [] w w' → K (.bool true) w') : C.call Try.prog 3 #[lv] w K := by
  refine F3.sh (alive37_c fun w1 hf1 => ?_)
  simp only [C.ite_true, C.ite_false, C.pick_true, C.pick_false, C.not_bool, C.field_ptr, C.nilCheck_ptr, C.add_mk, C.sub_mk, C.mul_mk, C.eql_mk, C.neq_mk, C.lss_mk, C.leq_mk, C.gtr_mk, C.geq_mk, C.conv_mk, C.len_mk, C.ext_0, C.ext_1, C.ext3_0, C.ext3_1, C.ext3_2, C.guarded_yes, C.guarded_tf, C.guarded_ft, C.guarded_undef, Bool.not_true, Bool.not_false, Nat.zero_add, eq_self, decide_true, decide_false]
  have hl1 := hl.keep hf1
  refine F3.k3.to (C.len_rd hl1 ?_)
  rw [intC_len]
  by_cases c : (l.length : Int) > 2048
  · have c5 : Cd l 5 [] := .inl ⟨rfl, by omega, rfl⟩
    simp only [C.ite_true, C.ite_false, C.pick_true, C.pick_false, C.not_bool, C.field_ptr, C.nilCheck_ptr, C.add_mk, C.sub_mk, C.mul_mk, C.eql_mk, C.neq_mk, C.lss_mk, C.leq_mk, C.gtr_mk, C.geq_mk, C.conv_mk, C.len_mk, C.ext_0, C.ext_1, C.ext3_0, C.ext3_1, C.ext3_2, C.guarded_yes, C.guarded_tf, C.guarded_ft, C.guarded_undef, Bool.not_true, Bool.not_false, Nat.zero_add, eq_self, decide_true, decide_false, c]
    refine ECheck_c hl1 hr fun c' m' w2 hc' hf2 => ?_
    obtain ⟨rfl, rfl⟩ := c5.det hc'
    simp only [C.ite_true, C.ite_false, C.pick_true, C.pick_false, C.not_bool, C.field_ptr, C.nilCheck_ptr, C.add_mk, C.sub_mk, C.mul_mk, C.eql_mk, C.neq_mk, C.lss_mk, C.leq_mk, C.gtr_mk, C.geq_mk, C.conv_mk, C.len_mk, C.ext_0, C.ext_1, C.ext3_0, C.ext3_1, C.ext3_2, C.guarded_yes, C.guarded_tf, C.guarded_ft, C.guarded_undef, Bool.not_true, Bool.not_false, Nat.zero_add, eq_self, decide_true, decide_false]
    refine Objects_c (hl1.keep hf2) hr fun c' m' sv w3 hc' hf3 hs3 => ?_
    obtain ⟨rfl, rfl⟩ := c5.det hc'
    refine C.len_rd hs3 ?_
    rw [show (((intC (atL [])).length : Nat) : Int) = 0 from rfl]
    simp only [C.ite_true, C.ite_false, C.pick_true, C.pick_false, C.not_bool, C.field_ptr, C.nilCheck_ptr, C.add_mk, C.sub_mk, C.mul_mk, C.eql_mk, C.neq_mk, C.lss_mk, C.leq_mk, C.gtr_mk, C.geq_mk, C.conv_mk, C.len_mk, C.ext_0, C.ext_1, C.ext3_0, C.ext3_1, C.ext3_2, C.guarded_yes, C.guarded_tf, C.guarded_ft, C.guarded_undef, Bool.not_true, Bool.not_false, Nat.zero_add, eq_self, decide_true, decide_false]
    exact h w3 (hf1.trans (hf2.trans hf3))
  · simp only [C.ite_true, C.ite_false, C.pick_true, C.pick_false, C.not_bool, C.field_ptr, C.nilCheck_ptr, C.add_mk, C.sub_mk, C.mul_mk, C.eql_mk, C.neq_mk, C.lss_mk, C.leq_mk, C.gtr_mk, C.geq_mk, C.conv_mk, C.len_mk, C.ext_0, C.ext_1, C.ext3_0, C.ext3_1, C.ext3_2, C.guarded_yes, C.guarded_tf, C.guarded_ft, C.guarded_undef, Bool.not_true, Bool.not_false, Nat.zero_add, eq_self, decide_true, decide_false, c]
    refine F3.k5.to (ROpen_c hl1 hr fun c m fs mv w2 hc hf2 hM => ?_)
    simp only [C.ite_true, C.ite_false, C.pick_true, C.pick_false, C.not_bool, C.field_ptr, C.nilCheck_ptr, C.add_mk, C.sub_mk, C.mul_mk, C.eql_mk, C.neq_mk, C.lss_mk, C.leq_mk, C.gtr_mk, C.geq_mk, C.conv_mk, C.len_mk, C.ext_0, C.ext_1, C.ext3_0, C.ext3_1, C.ext3_2, C.guarded_yes, C.guarded_tf, C.guarded_ft, C.guarded_undef, Bool.not_true, Bool.not_false, Nat.zero_add, eq_self, decide_true, decide_false]
    have hml : m.length ≤ 2048 := by
      rcases hc with ⟨_, _, rfl⟩ | ⟨_, _, rfl, _⟩ | ⟨_, a, b, _⟩
      · simp
      · simp
      · have := b.len; omega
    exact checks_loop (hl1.keep hf2) hr hc hM hml (fun w' hf' => h w' (hf1.trans (hf2.trans hf'))) m.length 0 w2 (.slice none 0 0) (by omega) (Fr.refl _ _) (NewS.nil _) (OwnS.nil _ _ _)
theorem lay_rng {l roots : List Int} {m : List Ob} {o : List Nat} (hL : Lyd l m roots o) (hr : Rng l) : Rng (lay m o) := fun x hx => by
  have hF := hL.again
  obtain ⟨p, hp, hx⟩ := List.mem_flatMap.1 hx
  have pm := hL.pls.2 p hp
  rcases List.mem_cons.1 hx with rfl | hx
  · rw [hdA_get pm]
    have := hL.spl.fits _ (List.getElem_mem pm)
    unfold Ob.hd
    omega
  · obtain ⟨y, hy, rfl⟩ := List.mem_map.1 hx
    unfold movW
    cases e : wPl m y with
    | none =>
      rw [fsA_get pm] at hy
      exact hr.fs hL.spl pm y hy
    | some q =>
      have := hL.pos (hL.closed p hp y hy q e)
      simp only
      omega
theorem roots_rng {l roots : List Int} {m : List Ob} {o : List Nat} (hL : Lyd l m roots o) (hr : Rng roots) : Rng (roots.map (movW m o)) := fun x hx => by
  obtain ⟨y, hy, rfl⟩ := List.mem_map.1 hx
  unfold movW
  cases e : wPl m y with
  | none => exact hr y hy
  | some q =>
    have := hL.pos (hL.root y hy q e)
    simp only
    omega
theorem EvacAgain_c {lv rv : Value} {l roots : List Int} (hl : RdS w lv 1 (intC l)) (hr : Rng l) (hrv : RdS w rv 1 (intC roots)) (hrr : Rng roots) (h : ∀ w', Fr [] w w' → K (.bool true) w') : C.call Try.prog 6 #[lv, rv] w K := by
  refine F6.sh (alive37_c fun w1 hf1 => ?_)
  simp only [C.ite_true, C.ite_false, C.pick_true, C.pick_false, C.not_bool, C.field_ptr, C.nilCheck_ptr, C.add_mk, C.sub_mk, C.mul_mk, C.eql_mk, C.neq_mk, C.lss_mk, C.leq_mk, C.gtr_mk, C.geq_mk, C.conv_mk, C.len_mk, C.ext_0, C.ext_1, C.ext3_0, C.ext3_1, C.ext3_2, C.guarded_yes, C.guarded_tf, C.guarded_ft, C.guarded_undef, Bool.not_true, Bool.not_false, Nat.zero_add, eq_self, decide_true, decide_false]
  refine F6.k3.to (few_c (hl.keep hf1) hr fun lv l hl hr hlen => few_c (hrv.keep hf1) hrr fun rv roots hrv hrr hrlen => ?_)
  refine Copy_c hl hr hrv hrr (by omega) (fun c m w2 hc c0 hf2 => ?_) fun m tv hv w2 hc hf2 ht hh _ _ => ?_
  · simp only [C.ite_true, C.ite_false, C.pick_true, C.pick_false, C.not_bool, C.field_ptr, C.nilCheck_ptr, C.add_mk, C.sub_mk, C.mul_mk, C.eql_mk, C.neq_mk, C.lss_mk, C.leq_mk, C.gtr_mk, C.geq_mk, C.conv_mk, C.len_mk, C.ext_0, C.ext_1, C.ext3_0, C.ext3_1, C.ext3_2, C.guarded_yes, C.guarded_tf, C.guarded_ft, C.guarded_undef, Bool.not_true, Bool.not_false, Nat.zero_add, eq_self, decide_true, decide_false, c0, ne_eq, not_false_eq_true]
    exact h w2 (hf1.trans hf2)
  · simp only [C.ite_true, C.ite_false, C.pick_true, C.pick_false, C.not_bool, C.field_ptr, C.nilCheck_ptr, C.add_mk, C.sub_mk, C.mul_mk, C.eql_mk, C.neq_mk, C.lss_mk, C.leq_mk, C.gtr_mk, C.geq_mk, C.conv_mk, C.len_mk, C.ext_0, C.ext_1, C.ext3_0, C.ext3_1, C.ext3_2, C.guarded_yes, C.guarded_tf, C.guarded_ft, C.guarded_undef, Bool.not_true, Bool.not_false, Nat.zero_add, eq_self, decide_true, decide_false, ne_eq, not_true_eq_false]
    have hO := hc.opn
    have hL := hO.copy
    have hO2 := hL.opn
    have hL2 := hO2.copy
    refine F6.k7.to (Copy_c ht.rd (lay_rng hL hr) hh.rd (roots_rng hL hrr) (by simp; omega) (fun c m' w3 hc' c0 hf3 => absurd (hc'.det hO2.cr).1 c0) fun m' tv2 hv2 w3 hc' hf3 ht2 hh2 _ _ => ?_)
    obtain ⟨_, rfl⟩ := hc'.det hO2.cr
    rw [hO.copy_again, hL.lay_again] at ht2
    rw [hO.copy_again, hL.roots_again] at hh2
    simp only [C.ite_true, C.ite_false, C.pick_true, C.pick_false, C.not_bool, C.field_ptr, C.nilCheck_ptr, C.add_mk, C.sub_mk, C.mul_mk, C.eql_mk, C.neq_mk, C.lss_mk, C.leq_mk, C.gtr_mk, C.geq_mk, C.conv_mk, C.len_mk, C.ext_0, C.ext_1, C.ext3_0, C.ext3_1, C.ext3_2, C.guarded_yes, C.guarded_tf, C.guarded_ft, C.guarded_undef, Bool.not_true, Bool.not_false, Nat.zero_add, eq_self, decide_true, decide_false]
    have ht3 := ht.rd.keep hf3
    have hcd : Cd (lay m (ordO m roots)) 0 (cpy m (ordO m roots)) := .inr (.inr ⟨rfl, hO2.few, hO2.spl, hO2.fine⟩)
    refine ECheck_c ht3 (lay_rng hL hr) fun c m' w4 hc4 hf4 => ?_
    obtain ⟨rfl, _⟩ := hc4.det hcd
    simp only [C.ite_true, C.ite_false, C.pick_true, C.pick_false, C.not_bool, C.field_ptr, C.nilCheck_ptr, C.add_mk, C.sub_mk, C.mul_mk, C.eql_mk, C.neq_mk, C.lss_mk, C.leq_mk, C.gtr_mk, C.geq_mk, C.conv_mk, C.len_mk, C.ext_0, C.ext_1, C.ext3_0, C.ext3_1, C.ext3_2, C.guarded_yes, C.guarded_tf, C.guarded_ft, C.guarded_undef, Bool.not_true, Bool.not_false, Nat.zero_add, eq_self, decide_true, decide_false]
    refine WordsEq_c (ht2.rd.keep hf4) (ht3.keep hf4) fun w5 hf5 => ?_
    rw [decide_eq_true rfl]
    try simp only [C.ite_true, C.ite_false, C.pick_true, C.pick_false, C.not_bool, C.field_ptr, C.nilCheck_ptr, C.add_mk, C.sub_mk, C.mul_mk, C.eql_mk, C.neq_mk, C.lss_mk, C.leq_mk, C.gtr_mk, C.geq_mk, C.conv_mk, C.len_mk, C.ext_0, C.ext_1, C.ext3_0, C.ext3_1, C.ext3_2, C.guarded_yes, C.guarded_tf, C.guarded_ft, C.guarded_undef, Bool.not_true, Bool.not_false, Nat.zero_add, eq_self, decide_true, decide_false]
    have f25 := hf4.trans hf5
    refine WordsEq_c (hh2.rd.keep f25) ((hh.rd.keep hf3).keep f25) fun w6 hf6 => ?_
    rw [decide_eq_true rfl]
    try simp only [C.ite_true, C.ite_false, C.pick_true, C.pick_false, C.not_bool, C.field_ptr, C.nilCheck_ptr, C.add_mk, C.sub_mk, C.mul_mk, C.eql_mk, C.neq_mk, C.lss_mk, C.leq_mk, C.gtr_mk, C.geq_mk, C.conv_mk, C.len_mk, C.ext_0, C.ext_1, C.ext3_0, C.ext3_1, C.ext3_2, C.guarded_yes, C.guarded_tf, C.guarded_ft, C.guarded_undef, Bool.not_true, Bool.not_false, Nat.zero_add, eq_self, decide_true, decide_false]
    exact h w6 (hf1.trans (hf2.trans (hf3.trans (f25.trans hf6))))
end
end Go.Proofs.YtfjilngljnlkjaaV
