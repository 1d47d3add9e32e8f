/- SlideLike. -/
import Derived.Test.YtfjilngljnlkjaaSlD
namespace Go.Proofs.YtfjilngljnlkjaaV
open Go Go.Proofs Go.RowKit
set_option linter.unusedVariables false
set_option linter.unusedSimpArgs false
set_option maxRecDepth 10000
section
variable {K : VK} {w : World}
theorem like_loop {W0 : World} {y0 y5 y6 y8 y11 y12 y13 y14 y15 y16 y17 mv : Value} {l : List Int} {m : List Ob} {roots : List Int} (hO : Spl 0 l m) (hm : RdS W0 mv 2 (valC (mvL m (slO m roots) (slO m roots).length)))
    (h : ∀ w', Fr [] W0 w' → F9.k17 K y0 y5 y6 y8 y11 y12 y13 y14 y15 y16 y17 w') :
    ∀ (d j : Nat) (w : World), (slO m roots).length = j + d → Fr [] W0 w → F9.l13 K y0 y5 y6 y8 y11 y12 y13 y14 y15 y16 y17 mv (.int .i64 (j : Int)) w := by
  have hP := slO_pls m roots
  have hSl := hP.len
  have hle := hm.le
  rw [valC_len, mvL_len] at hle
  intro d
  induction d with
  | zero =>
    intro j w hj hf
    refine F9.l13.to (C.len_rd (hm.keep hf) ?_)
    rw [valC_len, mvL_len]
    simp only [C.ite_true, C.ite_false, C.pick_true, C.pick_false, C.not_bool, C.field_ptr, C.nilCheck_ptr, C.add_mk, C.sub_mk, C.mul_mk, C.eql_mk, C.neq_mk, C.lss_mk, C.leq_mk, C.gtr_mk, C.geq_mk, C.conv_mk, C.len_mk, C.ext_0, C.ext_1, C.ext3_0, C.ext3_1, C.ext3_2, C.guarded_yes, C.guarded_tf, C.guarded_ft, C.guarded_undef, Bool.not_true, Bool.not_false, Nat.zero_add, eq_self, decide_true, decide_false, show ¬ ((j : Int) < ((slO m roots).length : Int)) by omega]
    exact h w hf
  | succ d ih =>
    intro j w hj hf
    have jl : j < (slO m roots).length := by omega
    have jlm : j < (mvL m (slO m roots) (slO m roots).length).length := by rw [mvL_len]; exact jl
    have hin := List.getElem_mem jl
    have hpm := hP.2 _ hin
    have gx : (mvL m (slO m roots) (slO m roots).length)[j] = ((m[(slO m roots)[j]].at_ : Int), (szS m ((slO m roots).take j) : Int)) := by rw [mvL_get jl jl jlm, atA_get hpm]
    obtain ⟨_, hple⟩ := pos_le hO hin
    rw [pos_get hP.1 jl] at hple
    refine F9.l13.to (C.len_rd (hm.keep hf) ?_)
    rw [valC_len, mvL_len]
    simp only [C.ite_true, C.ite_false, C.pick_true, C.pick_false, C.not_bool, C.field_ptr, C.nilCheck_ptr, C.add_mk, C.sub_mk, C.mul_mk, C.eql_mk, C.neq_mk, C.lss_mk, C.leq_mk, C.gtr_mk, C.geq_mk, C.conv_mk, C.len_mk, C.ext_0, C.ext_1, C.ext3_0, C.ext3_1, C.ext3_2, C.guarded_yes, C.guarded_tf, C.guarded_ft, C.guarded_undef, Bool.not_true, Bool.not_false, Nat.zero_add, eq_self, decide_true, decide_false, show ((j : Int) < ((slO m roots).length : Int)) by omega]
    refine F9.k15.to (C.draw_of (fun w' => Fr [] W0 w') fun w1 hf1 he1 => ⟨hf.trans hf1, ?_⟩)
    have f1 := hf.trans hf1
    refine C.idx_rdS (S := fun w' => Fr [] W0 w') (fun w' hw => hm.keep hw) f1 (by omega) (by rw [Int.toNat_natCast]; exact valC_get jlm) fun g1 o1 _ hs1 => ?_
    simp only [C.ite_true, C.ite_false, C.pick_true, C.pick_false, C.not_bool, C.field_ptr, C.nilCheck_ptr, C.add_mk, C.sub_mk, C.mul_mk, C.eql_mk, C.neq_mk, C.lss_mk, C.leq_mk, C.gtr_mk, C.geq_mk, C.conv_mk, C.len_mk, C.ext_0, C.ext_1, C.ext3_0, C.ext3_1, C.ext3_2, C.guarded_yes, C.guarded_tf, C.guarded_ft, C.guarded_undef, Bool.not_true, Bool.not_false, Nat.zero_add, eq_self, decide_true, decide_false]
    refine C.idx_rdS (S := fun w' => Fr [] W0 w') (fun w' hw => hm.keep hw) f1 (by omega) (by rw [Int.toNat_natCast]; exact valC_get jlm) fun g2 o2 _ hs2 => ?_
    rw [gx] at hs1 hs2
    simp only [C.ite_true, C.ite_false, C.pick_true, C.pick_false, C.not_bool, C.field_ptr, C.nilCheck_ptr, C.add_mk, C.sub_mk, C.mul_mk, C.eql_mk, C.neq_mk, C.lss_mk, C.leq_mk, C.gtr_mk, C.geq_mk, C.conv_mk, C.len_mk, C.ext_0, C.ext_1, C.ext3_0, C.ext3_1, C.ext3_2, C.guarded_yes, C.guarded_tf, C.guarded_ft, C.guarded_undef, Bool.not_true, Bool.not_false, Nat.zero_add, eq_self, decide_true, decide_false]
    refine C.load1S_of (v := .int .i64 (szS m ((slO m roots).take j) : Int)) (fun w' hw => by obtain ⟨cs, e, fz, x, y⟩ := hs1 w' hw; exact ⟨cs, e, fz, x, by simpa using y 1 (by omega)⟩) ?_
    refine C.load1S_of (v := .int .i64 (m[(slO m roots)[j]].at_ : Int)) (fun w' hw => by obtain ⟨cs, e, fz, x, y⟩ := hs2 w' hw; exact ⟨cs, e, fz, x, by simpa using y 0 (by omega)⟩) ?_
    simp only [C.ite_true, C.ite_false, C.pick_true, C.pick_false, C.not_bool, C.field_ptr, C.nilCheck_ptr, C.add_mk, C.sub_mk, C.mul_mk, C.eql_mk, C.neq_mk, C.lss_mk, C.leq_mk, C.gtr_mk, C.geq_mk, C.conv_mk, C.len_mk, C.ext_0, C.ext_1, C.ext3_0, C.ext3_1, C.ext3_2, C.guarded_yes, C.guarded_tf, C.guarded_ft, C.guarded_undef, Bool.not_true, Bool.not_false, Nat.zero_add, eq_self, decide_true, decide_false, show ¬ ((szS m ((slO m roots).take j) : Int) > (m[(slO m roots)[j]].at_ : Int)) by omega]
    refine F9.k14.to ?_
    simp only [C.ite_true, C.ite_false, C.pick_true, C.pick_false, C.not_bool, C.field_ptr, C.nilCheck_ptr, C.add_mk, C.sub_mk, C.mul_mk, C.eql_mk, C.neq_mk, C.lss_mk, C.leq_mk, C.gtr_mk, C.geq_mk, C.conv_mk, C.len_mk, C.ext_0, C.ext_1, C.ext3_0, C.ext3_1, C.ext3_2, C.guarded_yes, C.guarded_tf, C.guarded_ft, C.guarded_undef, Bool.not_true, Bool.not_false, Nat.zero_add, eq_self, decide_true, decide_false]
    rw [wrap64_id (n := (j : Int) + 1) (by omega), show (j : Int) + 1 = ((j + 1 : Nat) : Int) by omega]
    exact ih (j + 1) w1 (by omega) f1
theorem like_end {lv tv hv cv tv2 hv2 rows nodes rows2 nodes2 : Value} {l roots : List Int} {m : List Ob} {b b2 : Nat} (hO : Opn l m roots) (hl : RdS w lv 1 (intC l)) (hr : Rng l)
    (ht : RdS w tv 1 (intC (lay m (slO m roots)))) (hh : RdS w hv 1 (intC (roots.map (movW m (slO m roots))))) (hcv : RdS w cv 1 (intC (lay m (ordO m roots)))) (ht2 : RdS w tv2 1 (intC (lay m (slO m roots)))) (hh2 : RdS w hv2 1 (intC (roots.map (movW m (slO m roots)))))
    (hb : VB w b rows nodes) (hV : IsV w rows nodes (vwO (cpy m (slO m roots)) (roots.map (movW m (slO m roots))))) (hb2 : VB w b2 rows2 nodes2) (hV2 : IsV w rows2 nodes2 (vwO (cpy m (ordO m roots)) (roots.map (movW m (ordO m roots)))))
    (h : ∀ w', Fr [] w w' → K (.bool true) w') : F9.k17 K lv tv hv cv (.pointer (some ⟨b, 0, none⟩)) (.int .i64 0) (.pointer (some ⟨b2, 0, none⟩)) (.int .i64 0) tv2 hv2 (.int .i64 0) w := by
  refine F9.k17.to (ROpen_c hl hr fun c m' fs yv w1 hc hf1 hM1 => ?_)
  have hcd : Cd l 0 m := .inr (.inr ⟨rfl, hO.few, hO.spl, hO.fine⟩)
  obtain ⟨rfl, rfl⟩ := hcd.det hc
  simp only [C.ite_true, C.ite_false, C.pick_true, C.pick_false, C.not_bool, C.field_ptr, C.nilCheck_ptr, C.add_mk, C.sub_mk, C.mul_mk, C.eql_mk, C.neq_mk, C.lss_mk, C.leq_mk, C.gtr_mk, C.geq_mk, C.conv_mk, C.len_mk, C.ext_0, C.ext_1, C.ext3_0, C.ext3_1, C.ext3_2, C.guarded_yes, C.guarded_tf, C.guarded_ft, C.guarded_undef, Bool.not_true, Bool.not_false, Nat.zero_add, eq_self, decide_true, decide_false]
  refine C.len_rd (ht.keep hf1) (C.len_rd (hcv.keep hf1) ?_)
  rw [intC_len, intC_len, lay_lens]
  simp only [C.ite_true, C.ite_false, C.pick_true, C.pick_false, C.not_bool, C.field_ptr, C.nilCheck_ptr, C.add_mk, C.sub_mk, C.mul_mk, C.eql_mk, C.neq_mk, C.lss_mk, C.leq_mk, C.gtr_mk, C.geq_mk, C.conv_mk, C.len_mk, C.ext_0, C.ext_1, C.ext3_0, C.ext3_1, C.ext3_2, C.guarded_yes, C.guarded_tf, C.guarded_ft, C.guarded_undef, Bool.not_true, Bool.not_false, Nat.zero_add, eq_self, decide_true, decide_false]
  have last : ∀ w', Fr [] w w' → C.call Try.prog 21 #[tv2, tv] w' fun x135 w28 => C.pick (some (.bool true)) (some x135) (some (.bool false)) w28 fun x136 w29 =>
      C.guarded true x136 (fun K => K hv2 w29) w29 fun x138 w30 => C.guarded true x136 (fun K => K hv w30) w30 fun x139 w31 => C.guarded true x136 (fun K => C.call Try.prog 21 #[x138, x139] w31 K) w31 fun x140 w32 => C.pick (some x136) (some x140) (some (.bool false)) w32 fun x141 w33 => K x141 w33 := by
    intro w2 hf2
    refine WordsEq_c (ht2.keep hf2) (ht.keep hf2) fun w3 hf3 => ?_
    rw [decide_eq_true rfl]
    simp only [C.ite_true, C.ite_false, C.pick_true, C.pick_false, C.not_bool, C.field_ptr, C.nilCheck_ptr, C.add_mk, C.sub_mk, C.mul_mk, C.eql_mk, C.neq_mk, C.lss_mk, C.leq_mk, C.gtr_mk, C.geq_mk, C.conv_mk, C.len_mk, C.ext_0, C.ext_1, C.ext3_0, C.ext3_1, C.ext3_2, C.guarded_yes, C.guarded_tf, C.guarded_ft, C.guarded_undef, Bool.not_true, Bool.not_false, Nat.zero_add, eq_self, decide_true, decide_false]
    refine WordsEq_c (hh2.keep (hf2.trans hf3)) (hh.keep (hf2.trans hf3)) fun w4 hf4 => ?_
    rw [decide_eq_true rfl]
    try simp only [C.ite_true, C.ite_false, C.pick_true, C.pick_false, C.not_bool, C.field_ptr, C.nilCheck_ptr, C.add_mk, C.sub_mk, C.mul_mk, C.eql_mk, C.neq_mk, C.lss_mk, C.leq_mk, C.gtr_mk, C.geq_mk, C.conv_mk, C.len_mk, C.ext_0, C.ext_1, C.ext3_0, C.ext3_1, C.ext3_2, C.guarded_yes, C.guarded_tf, C.guarded_ft, C.guarded_undef, Bool.not_true, Bool.not_false, Nat.zero_add, eq_self, decide_true, decide_false]
    exact h w4 (hf2.trans (hf3.trans hf4))
  have last' := fun w' hf => by
    have := last w' hf
    simp only [C.ite_true, C.ite_false, C.pick_true, C.pick_false, C.not_bool, C.field_ptr, C.nilCheck_ptr, C.add_mk, C.sub_mk, C.mul_mk, C.eql_mk, C.neq_mk, C.lss_mk, C.leq_mk, C.gtr_mk, C.geq_mk, C.conv_mk, C.len_mk, C.ext_0, C.ext_1, C.ext3_0, C.ext3_1, C.ext3_2, C.guarded_yes, C.guarded_tf, C.guarded_ft, C.guarded_undef, Bool.not_true, Bool.not_false, Nat.zero_add, eq_self, decide_true, decide_false] at this
    exact this
  refine unlike2_c hM1 (fun w2 hf2 hU => ?_) fun w2 hf2 hU => ?_
  · simp only [C.ite_true, C.ite_false, C.pick_true, C.pick_false, C.not_bool, C.field_ptr, C.nilCheck_ptr, C.add_mk, C.sub_mk, C.mul_mk, C.eql_mk, C.neq_mk, C.lss_mk, C.leq_mk, C.gtr_mk, C.geq_mk, C.conv_mk, C.len_mk, C.ext_0, C.ext_1, C.ext3_0, C.ext3_1, C.ext3_2, C.guarded_yes, C.guarded_tf, C.guarded_ft, C.guarded_undef, Bool.not_true, Bool.not_false, Nat.zero_add, eq_self, decide_true, decide_false]
    exact last' w2 (hf1.trans hf2)
  · simp only [C.ite_true, C.ite_false, C.pick_true, C.pick_false, C.not_bool, C.field_ptr, C.nilCheck_ptr, C.add_mk, C.sub_mk, C.mul_mk, C.eql_mk, C.neq_mk, C.lss_mk, C.leq_mk, C.gtr_mk, C.geq_mk, C.conv_mk, C.len_mk, C.ext_0, C.ext_1, C.ext3_0, C.ext3_1, C.ext3_2, C.guarded_yes, C.guarded_tf, C.guarded_ft, C.guarded_undef, Bool.not_true, Bool.not_false, Nat.zero_add, eq_self, decide_true, decide_false]
    have f2 := hf1.trans hf2
    refine (hb.keep f2 (by simp)).all ((hb2.keep f2 (by simp)).all (View_c (hV.keep f2) (hV2.keep f2) fun w3 hf3 => ?_))
    rw [hO.slide.view hU, hO.copy.view hU, decide_eq_true rfl]
    simp only [C.ite_true, C.ite_false, C.pick_true, C.pick_false, C.not_bool, C.field_ptr, C.nilCheck_ptr, C.add_mk, C.sub_mk, C.mul_mk, C.eql_mk, C.neq_mk, C.lss_mk, C.leq_mk, C.gtr_mk, C.geq_mk, C.conv_mk, C.len_mk, C.ext_0, C.ext_1, C.ext3_0, C.ext3_1, C.ext3_2, C.guarded_yes, C.guarded_tf, C.guarded_ft, C.guarded_undef, Bool.not_true, Bool.not_false, Nat.zero_add, eq_self, decide_true, decide_false]
    exact last' w3 (f2.trans hf3)
theorem SlideLike_c {lv rv : Value} {l roots : List Int} (hl : RdS w lv 1 (intC l)) (hr : Rng l) (hrv : RdS w rv 1 (intC roots)) (hrr : Rng roots) (h : ∀ w', Fr [] w w' → K (.bool true) w') : C.call Try.prog 9 #[lv, rv] w K := by
  refine F9.sh (alive38_c fun w1 hf1 => ?_)
  simp only [C.ite_true, C.ite_false, C.pick_true, C.pick_false, C.not_bool, C.field_ptr, C.nilCheck_ptr, C.add_mk, C.sub_mk, C.mul_mk, C.eql_mk, C.neq_mk, C.lss_mk, C.leq_mk, C.gtr_mk, C.geq_mk, C.conv_mk, C.len_mk, C.ext_0, C.ext_1, C.ext3_0, C.ext3_1, C.ext3_2, C.guarded_yes, C.guarded_tf, C.guarded_ft, C.guarded_undef, Bool.not_true, Bool.not_false, Nat.zero_add, eq_self, decide_true, decide_false]
  have z0 : ((0 : Nat) : Int) = 0 := rfl
  refine F9.k3.to (few38_c (hl.keep hf1) hr fun lv l hl hr hlen => few38_c (hrv.keep hf1) hrr fun rv roots hrv hrr hrlen => ?_)
  refine Slide_c hl hr hrv hrr (by omega) (fun c m w2 hc c0 hf2 => ?_) fun m tv hv w2 hc hf2 ht hh _ _ => ?_
  · simp only [C.ite_true, C.ite_false, C.pick_true, C.pick_false, C.not_bool, C.field_ptr, C.nilCheck_ptr, C.add_mk, C.sub_mk, C.mul_mk, C.eql_mk, C.neq_mk, C.lss_mk, C.leq_mk, C.gtr_mk, C.geq_mk, C.conv_mk, C.len_mk, C.ext_0, C.ext_1, C.ext3_0, C.ext3_1, C.ext3_2, C.guarded_yes, C.guarded_tf, C.guarded_ft, C.guarded_undef, Bool.not_true, Bool.not_false, Nat.zero_add, eq_self, decide_true, decide_false]
    refine Copy_c (hl.keep hf2) hr (hrv.keep hf2) hrr (by omega) (fun c' m' w3 hc' c0' hf3 => ?_) fun m' _ _ w3 hc' hf3 _ _ _ _ => absurd (hc.det hc').1 c0
    obtain ⟨rfl, _⟩ := hc.det hc'
    simp only [C.ite_true, C.ite_false, C.pick_true, C.pick_false, C.not_bool, C.field_ptr, C.nilCheck_ptr, C.add_mk, C.sub_mk, C.mul_mk, C.eql_mk, C.neq_mk, C.lss_mk, C.leq_mk, C.gtr_mk, C.geq_mk, C.conv_mk, C.len_mk, C.ext_0, C.ext_1, C.ext3_0, C.ext3_1, C.ext3_2, C.guarded_yes, C.guarded_tf, C.guarded_ft, C.guarded_undef, Bool.not_true, Bool.not_false, Nat.zero_add, eq_self, decide_true, decide_false, ne_eq, not_true_eq_false, c0, not_false_eq_true, z0]
    exact h w3 (hf1.trans (hf2.trans hf3))
  · have hO := hc.opn
    have hL := hO.slide
    have hLc := hO.copy
    have hO2 := hL.opn
    have hO3 := hLc.opn
    simp only [C.ite_true, C.ite_false, C.pick_true, C.pick_false, C.not_bool, C.field_ptr, C.nilCheck_ptr, C.add_mk, C.sub_mk, C.mul_mk, C.eql_mk, C.neq_mk, C.lss_mk, C.leq_mk, C.gtr_mk, C.geq_mk, C.conv_mk, C.len_mk, C.ext_0, C.ext_1, C.ext3_0, C.ext3_1, C.ext3_2, C.guarded_yes, C.guarded_tf, C.guarded_ft, C.guarded_undef, Bool.not_true, Bool.not_false, Nat.zero_add, eq_self, decide_true, decide_false]
    refine Copy_c (hl.keep hf2) hr (hrv.keep hf2) hrr (by omega) (fun c' m' w3 hc' c0' hf3 => absurd (hc'.det hc).1 c0') fun m' cv chv w3 hc' hf3 hct hch _ _ => ?_
    obtain ⟨_, rfl⟩ := hc.det hc'
    simp only [C.ite_true, C.ite_false, C.pick_true, C.pick_false, C.not_bool, C.field_ptr, C.nilCheck_ptr, C.add_mk, C.sub_mk, C.mul_mk, C.eql_mk, C.neq_mk, C.lss_mk, C.leq_mk, C.gtr_mk, C.geq_mk, C.conv_mk, C.len_mk, C.ext_0, C.ext_1, C.ext3_0, C.ext3_1, C.ext3_2, C.guarded_yes, C.guarded_tf, C.guarded_ft, C.guarded_undef, Bool.not_true, Bool.not_false, Nat.zero_add, eq_self, decide_true, decide_false, ne_eq, not_true_eq_false]
    have ht3 := ht.rd.keep hf3
    have hh3 := hh.rd.keep hf3
    refine F9.k8.to (EView_c ht3 (lay_rng hL hr) hh3 (roots_rng hL hrr) (by simp; omega) (fun c' m' w4 hc4 c0' hf4 => absurd (hc4.det hO2.cr).1 c0') fun m' rows nodes w4 hc4 hf4 hV4 => ?_)
    obtain ⟨_, rfl⟩ := hc4.det hO2.cr
    simp only [C.ite_true, C.ite_false, C.pick_true, C.pick_false, C.not_bool, C.field_ptr, C.nilCheck_ptr, C.add_mk, C.sub_mk, C.mul_mk, C.eql_mk, C.neq_mk, C.lss_mk, C.leq_mk, C.gtr_mk, C.geq_mk, C.conv_mk, C.len_mk, C.ext_0, C.ext_1, C.ext3_0, C.ext3_1, C.ext3_2, C.guarded_yes, C.guarded_tf, C.guarded_ft, C.guarded_undef, Bool.not_true, Bool.not_false, Nat.zero_add, eq_self, decide_true, decide_false]
    refine C.new_of fun b w5 hn5 => C.store_all (x := .agg #[rows, nodes]) hn5.at_ (by rw [hV4.cells]; rfl) hV4.ones rfl fun w6 hu6 => ?_
    have i5 := hn5.is
    have f46 : Fr [] w4 w6 := hn5.fr.then hu6.fr fun z hz => .inr (by simp only [List.mem_singleton] at hz; omega)
    have hb6 : VB w6 b rows nodes := by
      have := hu6.at_
      rw [hV4.cells] at this
      exact this
    have hV6 := hV4.keep f46
    have f36 := hf4.trans f46
    refine EView_c (hct.rd.keep f36) (lay_rng hLc hr) (hch.rd.keep f36) (roots_rng hLc hrr) (by simp; omega) (fun c' m' w7 hc7 c0' hf7 => absurd (hc7.det hO3.cr).1 c0') fun m' rows2 nodes2 w7 hc7 hf7 hV7 => ?_
    obtain ⟨_, rfl⟩ := hc7.det hO3.cr
    try simp only [C.ite_true, C.ite_false, C.pick_true, C.pick_false, C.not_bool, C.field_ptr, C.nilCheck_ptr, C.add_mk, C.sub_mk, C.mul_mk, C.eql_mk, C.neq_mk, C.lss_mk, C.leq_mk, C.gtr_mk, C.geq_mk, C.conv_mk, C.len_mk, C.ext_0, C.ext_1, C.ext3_0, C.ext3_1, C.ext3_2, C.guarded_yes, C.guarded_tf, C.guarded_ft, C.guarded_undef, Bool.not_true, Bool.not_false, Nat.zero_add, eq_self, decide_true, decide_false]
    refine C.new_of fun b2 w8 hn8 => C.store_all (x := .agg #[rows2, nodes2]) hn8.at_ (by rw [hV7.cells]; rfl) hV7.ones rfl fun w9 hu9 => ?_
    have i8 := hn8.is
    have f79 : Fr [] w7 w9 := hn8.fr.then hu9.fr fun z hz => .inr (by simp only [List.mem_singleton] at hz; omega)
    have hb9 : VB w9 b2 rows2 nodes2 := by
      have := hu9.at_
      rw [hV7.cells] at this
      exact this
    have hV9 := hV7.keep f79
    have f69 := hf7.trans f79
    have f39 := f36.trans f69
    refine Slide_c (ht3.keep f39) (lay_rng hL hr) (hh3.keep f39) (roots_rng hL hrr) (by simp; omega) (fun c' m' w10 hc10 c0' hf10 => absurd (hc10.det hO2.cr).1 c0') fun m' tv2 hv2 w10 hc10 hf10 ht10 hh10 _ _ => ?_
    obtain ⟨_, rfl⟩ := hc10.det hO2.cr
    rw [hO.slide_again, hL.lay_again] at ht10
    rw [hO.slide_again, hL.roots_again] at hh10
    try simp only [C.ite_true, C.ite_false, C.pick_true, C.pick_false, C.not_bool, C.field_ptr, C.nilCheck_ptr, C.add_mk, C.sub_mk, C.mul_mk, C.eql_mk, C.neq_mk, C.lss_mk, C.leq_mk, C.gtr_mk, C.geq_mk, C.conv_mk, C.len_mk, C.ext_0, C.ext_1, C.ext3_0, C.ext3_1, C.ext3_2, C.guarded_yes, C.guarded_tf, C.guarded_ft, C.guarded_undef, Bool.not_true, Bool.not_false, Nat.zero_add, eq_self, decide_true, decide_false]
    have f310 := f39.trans hf10
    have f110 := (hf2.trans hf3).trans f310
    refine Moves_c (hl.keep f110) hr (hrv.keep f110) hrr (by omega) (fun c' m' w11 hc' c0' hf3 => absurd (hc'.det hc).1 c0') fun m' mv w11 hc11 hf11 _ hm11 => ?_
    obtain ⟨_, rfl⟩ := hc.det hc11
    try simp only [C.ite_true, C.ite_false, C.pick_true, C.pick_false, C.not_bool, C.field_ptr, C.nilCheck_ptr, C.add_mk, C.sub_mk, C.mul_mk, C.eql_mk, C.neq_mk, C.lss_mk, C.leq_mk, C.gtr_mk, C.geq_mk, C.conv_mk, C.len_mk, C.ext_0, C.ext_1, C.ext3_0, C.ext3_1, C.ext3_2, C.guarded_yes, C.guarded_tf, C.guarded_ft, C.guarded_undef, Bool.not_true, Bool.not_false, Nat.zero_add, eq_self, decide_true, decide_false]
    have f911 := hf10.trans hf11
    have f311 := f310.trans hf11
    refine like_loop (W0 := w11) hO.spl hm11.rd (fun w12 hf12 => ?_) (slO m roots).length 0 w11 (by omega) (Fr.refl _ _)
    have f912 := f911.trans hf12
    have f312 := f311.trans hf12
    exact like_end hO (hl.keep ((f110.trans hf11).trans hf12)) hr (ht3.keep f312) (hh3.keep f312) (hct.rd.keep f312) ((ht10.rd.keep hf11).keep hf12) ((hh10.rd.keep hf11).keep hf12) (hb6.keep (f69.trans f912) (by simp)) (hV6.keep (f69.trans f912)) (hb9.keep f912 (by simp)) (hV9.keep f912) fun w' hf' => h w' (hf1.trans (((f110.trans hf11).trans hf12).trans hf'))
end
end Go.Proofs.YtfjilngljnlkjaaV
