/- CacheOne, by the program. -/
import Derived.Test.YtfdpmgddlaamcaaCa11
namespace Go.Proofs.YtfdpmgddlaamcaaV
open Go Go.Proofs Go.RowKit
set_option linter.unusedVariables false
set_option linter.unusedSimpArgs false
set_option maxRecDepth 10000
section
variable {K : VK} {w : World}
theorem one_loop {W : World} {v : Value} {l : List COp} {b m : Nat} {n : Int} {yp yt yk : Value} (hv : RdS W v 4 (copC l)) (hm : W.heap.size ≤ m)
    (h : ∀ w' l' c', Fr [] W w' → Ca w' b m n l' c' → F4.k11 K yp yt yk (.pointer (some ⟨b, 0, none⟩)) w') :
    ∀ (d j : Nat) (w : World) (l' : Pgs) (c' : Nat), l.length = j + d → Fr [] W w → Ca w b m n l' c' → F4.l6 K v yp yt yk (.pointer (some ⟨b, 0, none⟩)) (.int .i64 (j : Int)) w := by
  intro d
  induction d with
  | zero =>
    intro j w l' c' hd hf hC
    refine F4.l6.to (C.len_rd (hv.keep hf) ?_)
    simp only [C.ite_true, C.ite_false, C.pick_true, C.pick_false, C.not_bool, C.field_ptr, C.nilCheck_ptr, C.add_mk, C.sub_mk, C.mul_mk, C.eql_mk, C.neq_mk, C.lss_mk, C.leq_mk, C.gtr_mk, C.geq_mk, C.conv_mk, C.len_mk, C.ext_0, C.ext_1, C.ext3_0, C.ext3_1, C.ext3_2, C.guarded_yes, C.guarded_tf, C.guarded_ft, C.guarded_undef, Bool.not_true, Bool.not_false, Nat.zero_add, eq_self, decide_true, decide_false, copC_len, show ¬ ((j : Int) < (l.length : Int)) by omega]
    exact h w l' c' hf hC
  | succ d ih =>
    intro j w l' c' hd hf hC
    have jl : j < l.length := by omega
    have hle := hv.le
    rw [copC_len] at hle
    have next : ∀ w' l'' c'', Fr [] W w' → Ca w' b m n l'' c'' → F4.k7 K v yp yt yk (.pointer (some ⟨b, 0, none⟩)) (.int .i64 (j : Int)) w' := fun w' l'' c'' hf' hC' => by
      refine F4.k7.to ?_
      simp only [C.ite_true, C.ite_false, C.pick_true, C.pick_false, C.not_bool, C.field_ptr, C.nilCheck_ptr, C.add_mk, C.sub_mk, C.mul_mk, C.eql_mk, C.neq_mk, C.lss_mk, C.leq_mk, C.gtr_mk, C.geq_mk, C.conv_mk, C.len_mk, C.ext_0, C.ext_1, C.ext3_0, C.ext3_1, C.ext3_2, C.guarded_yes, C.guarded_tf, C.guarded_ft, C.guarded_undef, Bool.not_true, Bool.not_false, Nat.zero_add, eq_self, decide_true, decide_false]
      rw [wrap64_id (n := (j : Int) + 1) (by omega), show (j : Int) + 1 = ((j + 1 : Nat) : Int) by omega]
      exact ih (j + 1) w' l'' c'' (by omega) hf' hC'
    refine F4.l6.to (C.len_rd (hv.keep hf) ?_)
    simp only [C.ite_true, C.ite_false, C.pick_true, C.pick_false, C.not_bool, C.field_ptr, C.nilCheck_ptr, C.add_mk, C.sub_mk, C.mul_mk, C.eql_mk, C.neq_mk, C.lss_mk, C.leq_mk, C.gtr_mk, C.geq_mk, C.conv_mk, C.len_mk, C.ext_0, C.ext_1, C.ext3_0, C.ext3_1, C.ext3_2, C.guarded_yes, C.guarded_tf, C.guarded_ft, C.guarded_undef, Bool.not_true, Bool.not_false, Nat.zero_add, eq_self, decide_true, decide_false, copC_len, show ((j : Int) < (l.length : Int)) by omega]
    refine F4.k8.to (C.idx_rd (hv.keep hf) (by omega) (by rw [Int.toNat_natCast]; exact copC_get jl) fun g o cs e fz hg hlen hc => ?_)
    simp only [C.ite_true, C.ite_false, C.pick_true, C.pick_false, C.not_bool, C.field_ptr, C.nilCheck_ptr, C.add_mk, C.sub_mk, C.mul_mk, C.eql_mk, C.neq_mk, C.lss_mk, C.leq_mk, C.gtr_mk, C.geq_mk, C.conv_mk, C.len_mk, C.ext_0, C.ext_1, C.ext3_0, C.ext3_1, C.ext3_2, C.guarded_yes, C.guarded_tf, C.guarded_ft, C.guarded_undef, Bool.not_true, Bool.not_false, Nat.zero_add, eq_self, decide_true, decide_false]
    refine C.load1_of (v := .int .i64 l[j].kd) hg (by simpa using hc 0 (by omega)) ?_
    by_cases hk : l[j].kd = 2
    · simp only [C.ite_true, C.ite_false, C.pick_true, C.pick_false, C.not_bool, C.field_ptr, C.nilCheck_ptr, C.add_mk, C.sub_mk, C.mul_mk, C.eql_mk, C.neq_mk, C.lss_mk, C.leq_mk, C.gtr_mk, C.geq_mk, C.conv_mk, C.len_mk, C.ext_0, C.ext_1, C.ext3_0, C.ext3_1, C.ext3_2, C.guarded_yes, C.guarded_tf, C.guarded_ft, C.guarded_undef, Bool.not_true, Bool.not_false, Nat.zero_add, eq_self, decide_true, decide_false, hk]
      refine C.idx_rd (hv.keep hf) (by omega) (by rw [Int.toNat_natCast]; exact copC_get jl) fun g o cs e fz hg hlen hc => ?_
      simp only [C.ite_true, C.ite_false, C.pick_true, C.pick_false, C.not_bool, C.field_ptr, C.nilCheck_ptr, C.add_mk, C.sub_mk, C.mul_mk, C.eql_mk, C.neq_mk, C.lss_mk, C.leq_mk, C.gtr_mk, C.geq_mk, C.conv_mk, C.len_mk, C.ext_0, C.ext_1, C.ext3_0, C.ext3_1, C.ext3_2, C.guarded_yes, C.guarded_tf, C.guarded_ft, C.guarded_undef, Bool.not_true, Bool.not_false, Nat.zero_add, eq_self, decide_true, decide_false]
      refine C.load1_of (v := .int .i64 l[j].t) hg (by simpa using hc 1 (by omega)) ?_
      refine Drop_c hC.is hC.good hC.kept fun _ w2 l2 _ hf2 hi2 hg2 hk2 _ _ _ _ _ => next w2 l2 c' (hf.then hf2 fun z hz => ?_) ⟨hi2, hg2, hk2⟩
      simp only [List.mem_singleton] at hz
      exact .inr (by omega)
    · simp only [C.ite_true, C.ite_false, C.pick_true, C.pick_false, C.not_bool, C.field_ptr, C.nilCheck_ptr, C.add_mk, C.sub_mk, C.mul_mk, C.eql_mk, C.neq_mk, C.lss_mk, C.leq_mk, C.gtr_mk, C.geq_mk, C.conv_mk, C.len_mk, C.ext_0, C.ext_1, C.ext3_0, C.ext3_1, C.ext3_2, C.guarded_yes, C.guarded_tf, C.guarded_ft, C.guarded_undef, Bool.not_true, Bool.not_false, Nat.zero_add, eq_self, decide_true, decide_false, hk]
      refine C.draw_of (fun w' => Fr [] W w') fun w1 hf1 _ => ⟨hf.trans hf1, ?_⟩
      have hS : Fr [] W w1 := hf.trans hf1
      refine C.idx_rdS (S := fun w' => Fr [] W w') (fun w' hw => hv.keep hw) hS (by omega) (by rw [Int.toNat_natCast]; exact copC_get jl) fun g1 o1 hl1 hs1 => ?_
      simp only [C.ite_true, C.ite_false, C.pick_true, C.pick_false, C.not_bool, C.field_ptr, C.nilCheck_ptr, C.add_mk, C.sub_mk, C.mul_mk, C.eql_mk, C.neq_mk, C.lss_mk, C.leq_mk, C.gtr_mk, C.geq_mk, C.conv_mk, C.len_mk, C.ext_0, C.ext_1, C.ext3_0, C.ext3_1, C.ext3_2, C.guarded_yes, C.guarded_tf, C.guarded_ft, C.guarded_undef, Bool.not_true, Bool.not_false, Nat.zero_add, eq_self, decide_true, decide_false]
      refine C.idx_rdS (S := fun w' => Fr [] W w') (fun w' hw => hv.keep hw) hS (by omega) (by rw [Int.toNat_natCast]; exact copC_get jl) fun g2 o2 hl2 hs2 => ?_
      simp only [C.ite_true, C.ite_false, C.pick_true, C.pick_false, C.not_bool, C.field_ptr, C.nilCheck_ptr, C.add_mk, C.sub_mk, C.mul_mk, C.eql_mk, C.neq_mk, C.lss_mk, C.leq_mk, C.gtr_mk, C.geq_mk, C.conv_mk, C.len_mk, C.ext_0, C.ext_1, C.ext3_0, C.ext3_1, C.ext3_2, C.guarded_yes, C.guarded_tf, C.guarded_ft, C.guarded_undef, Bool.not_true, Bool.not_false, Nat.zero_add, eq_self, decide_true, decide_false]
      refine C.idx_rdS (S := fun w' => Fr [] W w') (fun w' hw => hv.keep hw) hS (by omega) (by rw [Int.toNat_natCast]; exact copC_get jl) fun g3 o3 hl3 hs3 => ?_
      simp only [C.ite_true, C.ite_false, C.pick_true, C.pick_false, C.not_bool, C.field_ptr, C.nilCheck_ptr, C.add_mk, C.sub_mk, C.mul_mk, C.eql_mk, C.neq_mk, C.lss_mk, C.leq_mk, C.gtr_mk, C.geq_mk, C.conv_mk, C.len_mk, C.ext_0, C.ext_1, C.ext3_0, C.ext3_1, C.ext3_2, C.guarded_yes, C.guarded_tf, C.guarded_ft, C.guarded_undef, Bool.not_true, Bool.not_false, Nat.zero_add, eq_self, decide_true, decide_false]
      refine C.load1S_of (v := .int .i64 l[j].t) (fun w' hw => by obtain ⟨cs, e, fz, a, b⟩ := hs1 w' hw; exact ⟨cs, e, fz, a, by simpa using b 1 (by omega)⟩) ?_
      refine C.load1S_of (v := .int .i64 l[j].k) (fun w' hw => by obtain ⟨cs, e, fz, a, b⟩ := hs2 w' hw; exact ⟨cs, e, fz, a, by simpa using b 2 (by omega)⟩) ?_
      refine C.load1S_of (v := .int .i64 l[j].p) (fun w' hw => by obtain ⟨cs, e, fz, a, b⟩ := hs3 w' hw; exact ⟨cs, e, fz, a, by simpa using b 3 (by omega)⟩) ?_
      have hC1 := hC.keep hf1 (by simp) (by simp)
      refine ⟨SetCa_c hC1 (fun _ w2 hf2 => ?_) fun _ w2 hf2 hC2 => ?_, trivial⟩
      · exact ⟨hS.trans hf2, next w2 l' c' (hS.trans hf2) (hC1.keep hf2 (by simp) (by simp))⟩
      · have hS2 : Fr [] W w2 := hS.then hf2 fun z hz => by
          simp only [List.mem_singleton] at hz
          exact .inr (by omega)
        exact ⟨hS2, next w2 _ _ hS2 hC2⟩
theorem one_end {W : World} {b m c : Nat} {n p t k : Int} {l : Pgs} (hf : Fr [] W w) (hC : Ca w b m n l c) (h : ∀ w', Fr [] W w' → K (.bool true) w') :
    F4.k11 K (.int .i64 p) (.int .i64 t) (.int .i64 k) (.pointer (some ⟨b, 0, none⟩)) w := by
  refine F4.k11.to (Owner_c hC.is hC.good fun w1 hf1 => ?_)
  have hC1 := hC.keep hf1 (by simp) (by simp)
  have f1 := hf.trans hf1
  generalize ho : ownerOf l p = u
  obtain ⟨u, j⟩ := u
  -- the second half
  have back : ∀ w', Fr [] W w' → Ca w' b m n l c → F4.k14 K (.int .i64 t) (.int .i64 k) (.pointer (some ⟨b, 0, none⟩)) (.int .i64 u) (.int .i64 j) w' := fun w' hf' hC' => by
    refine F4.k14.to (Page_c hC'.is ?_)
    rcases page_is hC.kept (t, k) with ⟨p0, pon⟩ | ⟨pm, pno⟩
    · generalize pageOf l (t, k) = q at *
      simp only [C.ite_true, C.ite_false, C.pick_true, C.pick_false, C.not_bool, C.field_ptr, C.nilCheck_ptr, C.add_mk, C.sub_mk, C.mul_mk, C.eql_mk, C.neq_mk, C.lss_mk, C.leq_mk, C.gtr_mk, C.geq_mk, C.conv_mk, C.len_mk, C.ext_0, C.ext_1, C.ext3_0, C.ext3_1, C.ext3_2, C.guarded_yes, C.guarded_tf, C.guarded_ft, C.guarded_undef, Bool.not_true, Bool.not_false, Nat.zero_add, eq_self, decide_true, decide_false, show ¬ (q < 0) by omega]
      refine F4.k17.to (Owner_c hC'.is hC'.good fun w2 hf2 => ?_)
      rw [owner_on hC.good pon]
      simp only [C.ite_true, C.ite_false, C.pick_true, C.pick_false, C.not_bool, C.field_ptr, C.nilCheck_ptr, C.add_mk, C.sub_mk, C.mul_mk, C.eql_mk, C.neq_mk, C.lss_mk, C.leq_mk, C.gtr_mk, C.geq_mk, C.conv_mk, C.len_mk, C.ext_0, C.ext_1, C.ext3_0, C.ext3_1, C.ext3_2, C.guarded_yes, C.guarded_tf, C.guarded_ft, C.guarded_undef, Bool.not_true, Bool.not_false, Nat.zero_add, eq_self, decide_true, decide_false]
      exact h w2 (hf'.trans hf2)
    · rw [pm]
      simp only [C.ite_true, C.ite_false, C.pick_true, C.pick_false, C.not_bool, C.field_ptr, C.nilCheck_ptr, C.add_mk, C.sub_mk, C.mul_mk, C.eql_mk, C.neq_mk, C.lss_mk, C.leq_mk, C.gtr_mk, C.geq_mk, C.conv_mk, C.len_mk, C.ext_0, C.ext_1, C.ext3_0, C.ext3_1, C.ext3_2, C.guarded_yes, C.guarded_tf, C.guarded_ft, C.guarded_undef, Bool.not_true, Bool.not_false, Nat.zero_add, eq_self, decide_true, decide_false, show ((-1 : Int) < 0) by omega]
      by_cases c1 : u < 0
      · simp only [C.ite_true, C.ite_false, C.pick_true, C.pick_false, C.not_bool, C.field_ptr, C.nilCheck_ptr, C.add_mk, C.sub_mk, C.mul_mk, C.eql_mk, C.neq_mk, C.lss_mk, C.leq_mk, C.gtr_mk, C.geq_mk, C.conv_mk, C.len_mk, C.ext_0, C.ext_1, C.ext3_0, C.ext3_1, C.ext3_2, C.guarded_yes, C.guarded_tf, C.guarded_ft, C.guarded_undef, Bool.not_true, Bool.not_false, Nat.zero_add, eq_self, decide_true, decide_false, c1]
        exact h w' hf'
      · simp only [C.ite_true, C.ite_false, C.pick_true, C.pick_false, C.not_bool, C.field_ptr, C.nilCheck_ptr, C.add_mk, C.sub_mk, C.mul_mk, C.eql_mk, C.neq_mk, C.lss_mk, C.leq_mk, C.gtr_mk, C.geq_mk, C.conv_mk, C.len_mk, C.ext_0, C.ext_1, C.ext3_0, C.ext3_1, C.ext3_2, C.guarded_yes, C.guarded_tf, C.guarded_ft, C.guarded_undef, Bool.not_true, Bool.not_false, Nat.zero_add, eq_self, decide_true, decide_false, c1]
        by_cases c2 : u = t
        · subst c2
          simp only [C.ite_true, C.ite_false, C.pick_true, C.pick_false, C.not_bool, C.field_ptr, C.nilCheck_ptr, C.add_mk, C.sub_mk, C.mul_mk, C.eql_mk, C.neq_mk, C.lss_mk, C.leq_mk, C.gtr_mk, C.geq_mk, C.conv_mk, C.len_mk, C.ext_0, C.ext_1, C.ext3_0, C.ext3_1, C.ext3_2, C.guarded_yes, C.guarded_tf, C.guarded_ft, C.guarded_undef, Bool.not_true, Bool.not_false, Nat.zero_add, eq_self, decide_true, decide_false, ne_eq, not_true_eq_false, not_false_eq_true]
          by_cases c3 : j = k
          · exfalso
            subst c3
            rcases owner_is hC.good hC.kept p with ⟨_, h2⟩ | ⟨h2, _⟩
            · rw [ho] at h2; exact pno p h2
            · rw [ho] at h2; simp only [Prod.mk.injEq] at h2; omega
          · simp only [C.ite_true, C.ite_false, C.pick_true, C.pick_false, C.not_bool, C.field_ptr, C.nilCheck_ptr, C.add_mk, C.sub_mk, C.mul_mk, C.eql_mk, C.neq_mk, C.lss_mk, C.leq_mk, C.gtr_mk, C.geq_mk, C.conv_mk, C.len_mk, C.ext_0, C.ext_1, C.ext3_0, C.ext3_1, C.ext3_2, C.guarded_yes, C.guarded_tf, C.guarded_ft, C.guarded_undef, Bool.not_true, Bool.not_false, Nat.zero_add, eq_self, decide_true, decide_false, ne_eq, not_true_eq_false, not_false_eq_true, c3]
            exact h w' hf'
        · simp only [C.ite_true, C.ite_false, C.pick_true, C.pick_false, C.not_bool, C.field_ptr, C.nilCheck_ptr, C.add_mk, C.sub_mk, C.mul_mk, C.eql_mk, C.neq_mk, C.lss_mk, C.leq_mk, C.gtr_mk, C.geq_mk, C.conv_mk, C.len_mk, C.ext_0, C.ext_1, C.ext3_0, C.ext3_1, C.ext3_2, C.guarded_yes, C.guarded_tf, C.guarded_ft, C.guarded_undef, Bool.not_true, Bool.not_false, Nat.zero_add, eq_self, decide_true, decide_false, ne_eq, not_true_eq_false, not_false_eq_true, c2]
          exact h w' hf'
  rcases owner_is hC.good hC.kept p with ⟨h1, h2⟩ | ⟨h1, _⟩
  · rw [ho] at h1 h2
    simp only at h1
    simp only [C.ite_true, C.ite_false, C.pick_true, C.pick_false, C.not_bool, C.field_ptr, C.nilCheck_ptr, C.add_mk, C.sub_mk, C.mul_mk, C.eql_mk, C.neq_mk, C.lss_mk, C.leq_mk, C.gtr_mk, C.geq_mk, C.conv_mk, C.len_mk, C.ext_0, C.ext_1, C.ext3_0, C.ext3_1, C.ext3_2, C.guarded_yes, C.guarded_tf, C.guarded_ft, C.guarded_undef, Bool.not_true, Bool.not_false, Nat.zero_add, eq_self, decide_true, decide_false, ge_iff_le, h1]
    refine Page_c hC1.is ?_
    rw [page_on hC.kept h2]
    simp only [C.ite_true, C.ite_false, C.pick_true, C.pick_false, C.not_bool, C.field_ptr, C.nilCheck_ptr, C.add_mk, C.sub_mk, C.mul_mk, C.eql_mk, C.neq_mk, C.lss_mk, C.leq_mk, C.gtr_mk, C.geq_mk, C.conv_mk, C.len_mk, C.ext_0, C.ext_1, C.ext3_0, C.ext3_1, C.ext3_2, C.guarded_yes, C.guarded_tf, C.guarded_ft, C.guarded_undef, Bool.not_true, Bool.not_false, Nat.zero_add, eq_self, decide_true, decide_false, ne_eq, not_true_eq_false, not_false_eq_true]
    refine All_c hC1.is hC1.good hC1.kept fun v w2 hf2 _ ho2 => ?_
    refine In_c ho2.rd ?_
    have hin : p ∈ srt (allP l) := (srt_perm _).mem_iff.2 ((mem_allP hC.kept).2 ⟨_, h2⟩)
    simp only [C.ite_true, C.ite_false, C.pick_true, C.pick_false, C.not_bool, C.field_ptr, C.nilCheck_ptr, C.add_mk, C.sub_mk, C.mul_mk, C.eql_mk, C.neq_mk, C.lss_mk, C.leq_mk, C.gtr_mk, C.geq_mk, C.conv_mk, C.len_mk, C.ext_0, C.ext_1, C.ext3_0, C.ext3_1, C.ext3_2, C.guarded_yes, C.guarded_tf, C.guarded_ft, C.guarded_undef, Bool.not_true, Bool.not_false, Nat.zero_add, eq_self, decide_true, decide_false, hin]
    exact back w2 (f1.trans hf2) (hC1.keep hf2 (by simp) (by simp))
  · rw [ho] at h1
    simp only [Prod.mk.injEq] at h1
    obtain ⟨rfl, rfl⟩ := h1
    simp only [C.ite_true, C.ite_false, C.pick_true, C.pick_false, C.not_bool, C.field_ptr, C.nilCheck_ptr, C.add_mk, C.sub_mk, C.mul_mk, C.eql_mk, C.neq_mk, C.lss_mk, C.leq_mk, C.gtr_mk, C.geq_mk, C.conv_mk, C.len_mk, C.ext_0, C.ext_1, C.ext3_0, C.ext3_1, C.ext3_2, C.guarded_yes, C.guarded_tf, C.guarded_ft, C.guarded_undef, Bool.not_true, Bool.not_false, Nat.zero_add, eq_self, decide_true, decide_false, show ¬ ((-1 : Int) ≥ 0) by omega]
    exact back w1 f1 hC1
theorem CacheOne_c {n : Int} {v : Value} {l : List COp} (p t k : Int) (hv : RdS w v 4 (copC l)) (h : ∀ w', Fr [] w w' → K (.bool true) w') : C.call Try.prog 4 #[.int .i64 n, v, .int .i64 p, .int .i64 t, .int .i64 k] w K := by
  refine F4.sh (alive13_c fun w1 hf1 => ?_)
  simp only [C.ite_true, C.ite_false, C.pick_true, C.pick_false, C.not_bool, C.field_ptr, C.nilCheck_ptr, C.add_mk, C.sub_mk, C.mul_mk, C.eql_mk, C.neq_mk, C.lss_mk, C.leq_mk, C.gtr_mk, C.geq_mk, C.conv_mk, C.len_mk, C.ext_0, C.ext_1, C.ext3_0, C.ext3_1, C.ext3_2, C.guarded_yes, C.guarded_tf, C.guarded_ft, C.guarded_undef, Bool.not_true, Bool.not_false, Nat.zero_add, eq_self, decide_true, decide_false]
  refine F4.k3.to (NewCa_c fun b m w2 hf2 hb hm hC => few17_c hv fun v' hv' => ?_)
  have s1 := hf1.size
  exact one_loop hv' (by omega) (fun w' l' c' hf' hC' => one_end hf' hC' h) _ 0 w2 [] 0 (by rw [Nat.zero_add]) (hf1.trans hf2) hC
end
end Go.Proofs.YtfdpmgddlaamcaaV
