/- The cache of pages: the list at its side, by the program: owner, page, without. -/
import Derived.Test.YtfdpmgddlaamcaaCa11
import Derived.Test.YtfdpmgddlaamcaaCaR
import Derived.Test.YtfdpmgddlaamcaaCaRise
namespace Go.Proofs.YtfdpmgddlaamcaaV
open Go Go.Proofs Go.RowKit
set_option linter.unusedVariables false
set_option linter.unusedSimpArgs false
set_option maxRecDepth 10000
def owC (ms : Ows) : List (List Value) := ms.map fun x => [.int .i64 x.1.1, .int .i64 x.1.2, .int .i64 x.2]
theorem owC_len (ms : Ows) : (owC ms).length = ms.length := by simp [owC]
theorem owC_get {ms : Ows} {j : Nat} (h : j < ms.length) : (owC ms)[j]? = some [.int .i64 ms[j].1.1, .int .i64 ms[j].1.2, .int .i64 ms[j].2] := by simp [owC, h]
theorem owC_app (a b : Ows) : owC (a ++ b) = owC a ++ owC b := by simp [owC]
theorem ownL_drop {ms : Ows} {p : Int} {j : Nat} (h : j < ms.length) : ownL (ms.drop j) p = if ms[j].2 = p then ms[j].1 else ownL (ms.drop (j + 1)) p := by
  rw [List.drop_eq_getElem_cons h]
  unfold ownL
  rw [List.find?_cons]
  by_cases c : ms[j].2 = p
  · simp [c]
  · simp [c]
theorem pageL_drop {ms : Ows} {a : Int × Int} {j : Nat} (h : j < ms.length) : pageL (ms.drop j) a = if ms[j].1.1 = a.1 ∧ ms[j].1.2 = a.2 then ms[j].2 else pageL (ms.drop (j + 1)) a := by
  rw [List.drop_eq_getElem_cons h]
  unfold pageL
  rw [List.find?_cons]
  by_cases c : ms[j].1.1 = a.1
  · by_cases d : ms[j].1.2 = a.2
    · simp [c, d]
    · simp [c, d]
  · simp [c]
section
variable {K : VK} {w : World}
theorem owner_l {v : Value} {ms : Ows} {p : Int} (hv : RdS w v 3 (owC ms)) (hl : ms.length ≤ 1000) :
    ∀ (d j : Nat), ms.length = j + d → (∀ w', Fr [] w w' → K (.tuple #[.int .i64 (ownL (ms.drop j) p).1, .int .i64 (ownL (ms.drop j) p).2]) w') → F96.l2 K v (.int .i64 p) (.int .i64 (j : Int)) w := by
  intro d
  induction d with
  | zero =>
    intro j hd h
    refine F96.l2.to (C.len_rd hv ?_)
    simp only [C.ite_true, C.ite_false, C.pick_true, C.pick_false, C.not_bool, C.field_ptr, C.nilCheck_ptr, C.add_mk, C.sub_mk, C.mul_mk, C.eql_mk, C.neq_mk, C.lss_mk, C.leq_mk, C.gtr_mk, C.geq_mk, C.conv_mk, C.len_mk, C.ext_0, C.ext_1, C.ext3_0, C.ext3_1, C.ext3_2, C.guarded_yes, C.guarded_tf, C.guarded_ft, C.guarded_undef, Bool.not_true, Bool.not_false, Nat.zero_add, eq_self, decide_true, decide_false, owC_len, show ¬ ((j : Int) < (ms.length : Int)) by omega]
    rw [List.drop_of_length_le (by omega)] at h
    exact F96.k6.to (h w (Fr.refl _ _))
  | succ d ih =>
    intro j hd h
    have jl : j < ms.length := by omega
    rw [ownL_drop jl] at h
    refine F96.l2.to (C.len_rd hv ?_)
    simp only [C.ite_true, C.ite_false, C.pick_true, C.pick_false, C.not_bool, C.field_ptr, C.nilCheck_ptr, C.add_mk, C.sub_mk, C.mul_mk, C.eql_mk, C.neq_mk, C.lss_mk, C.leq_mk, C.gtr_mk, C.geq_mk, C.conv_mk, C.len_mk, C.ext_0, C.ext_1, C.ext3_0, C.ext3_1, C.ext3_2, C.guarded_yes, C.guarded_tf, C.guarded_ft, C.guarded_undef, Bool.not_true, Bool.not_false, Nat.zero_add, eq_self, decide_true, decide_false, owC_len, show ((j : Int) < (ms.length : Int)) by omega]
    refine F96.k4.to (C.idx_rd hv (by omega) (by rw [Int.toNat_natCast]; exact owC_get jl) fun g o cs e fz hg hlen hc => ?_)
    simp only [C.ite_true, C.ite_false, C.pick_true, C.pick_false, C.not_bool, C.field_ptr, C.nilCheck_ptr, C.add_mk, C.sub_mk, C.mul_mk, C.eql_mk, C.neq_mk, C.lss_mk, C.leq_mk, C.gtr_mk, C.geq_mk, C.conv_mk, C.len_mk, C.ext_0, C.ext_1, C.ext3_0, C.ext3_1, C.ext3_2, C.guarded_yes, C.guarded_tf, C.guarded_ft, C.guarded_undef, Bool.not_true, Bool.not_false, Nat.zero_add, eq_self, decide_true, decide_false]
    refine C.load1_of (v := .int .i64 ms[j].2) hg (by simpa using hc 2 (by omega)) ?_
    by_cases c : ms[j].2 = p
    · rw [if_pos c] at h
      simp only [C.ite_true, C.ite_false, C.pick_true, C.pick_false, C.not_bool, C.field_ptr, C.nilCheck_ptr, C.add_mk, C.sub_mk, C.mul_mk, C.eql_mk, C.neq_mk, C.lss_mk, C.leq_mk, C.gtr_mk, C.geq_mk, C.conv_mk, C.len_mk, C.ext_0, C.ext_1, C.ext3_0, C.ext3_1, C.ext3_2, C.guarded_yes, C.guarded_tf, C.guarded_ft, C.guarded_undef, Bool.not_true, Bool.not_false, Nat.zero_add, eq_self, decide_true, decide_false, c]
      refine C.draw_of (fun w' => RdS w' v 3 (owC ms)) fun w1 hf1 _ => ⟨hv.keep hf1, ?_⟩
      have hS : RdS w1 v 3 (owC ms) := hv.keep hf1
      refine C.idx_rdS (S := fun w' => RdS w' v 3 (owC ms)) (fun w' hw => hw) hS (by omega) (by rw [Int.toNat_natCast]; exact owC_get jl) fun g1 o1 hl1 hs1 => ?_
      simp only [C.ite_true, C.ite_false, C.pick_true, C.pick_false, C.not_bool, C.field_ptr, C.nilCheck_ptr, C.add_mk, C.sub_mk, C.mul_mk, C.eql_mk, C.neq_mk, C.lss_mk, C.leq_mk, C.gtr_mk, C.geq_mk, C.conv_mk, C.len_mk, C.ext_0, C.ext_1, C.ext3_0, C.ext3_1, C.ext3_2, C.guarded_yes, C.guarded_tf, C.guarded_ft, C.guarded_undef, Bool.not_true, Bool.not_false, Nat.zero_add, eq_self, decide_true, decide_false]
      refine C.idx_rdS (S := fun w' => RdS w' v 3 (owC ms)) (fun w' hw => hw) hS (by omega) (by rw [Int.toNat_natCast]; exact owC_get jl) fun g2 o2 hl2 hs2 => ?_
      simp only [C.ite_true, C.ite_false, C.pick_true, C.pick_false, C.not_bool, C.field_ptr, C.nilCheck_ptr, C.add_mk, C.sub_mk, C.mul_mk, C.eql_mk, C.neq_mk, C.lss_mk, C.leq_mk, C.gtr_mk, C.geq_mk, C.conv_mk, C.len_mk, C.ext_0, C.ext_1, C.ext3_0, C.ext3_1, C.ext3_2, C.guarded_yes, C.guarded_tf, C.guarded_ft, C.guarded_undef, Bool.not_true, Bool.not_false, Nat.zero_add, eq_self, decide_true, decide_false]
      refine C.load1S_of (v := .int .i64 ms[j].1.1) (fun w' hw => by obtain ⟨cs, e, fz, a, b⟩ := hs1 w' hw; exact ⟨cs, e, fz, a, by simpa using b 0 (by omega)⟩) ?_
      refine C.load1S_of (v := .int .i64 ms[j].1.2) (fun w' hw => by obtain ⟨cs, e, fz, a, b⟩ := hs2 w' hw; exact ⟨cs, e, fz, a, by simpa using b 1 (by omega)⟩) ?_
      exact h w1 hf1
    · rw [if_neg c] at h
      simp only [C.ite_true, C.ite_false, C.pick_true, C.pick_false, C.not_bool, C.field_ptr, C.nilCheck_ptr, C.add_mk, C.sub_mk, C.mul_mk, C.eql_mk, C.neq_mk, C.lss_mk, C.leq_mk, C.gtr_mk, C.geq_mk, C.conv_mk, C.len_mk, C.ext_0, C.ext_1, C.ext3_0, C.ext3_1, C.ext3_2, C.guarded_yes, C.guarded_tf, C.guarded_ft, C.guarded_undef, Bool.not_true, Bool.not_false, Nat.zero_add, eq_self, decide_true, decide_false, c]
      refine F96.k3.to ?_
      simp only [C.ite_true, C.ite_false, C.pick_true, C.pick_false, C.not_bool, C.field_ptr, C.nilCheck_ptr, C.add_mk, C.sub_mk, C.mul_mk, C.eql_mk, C.neq_mk, C.lss_mk, C.leq_mk, C.gtr_mk, C.geq_mk, C.conv_mk, C.len_mk, C.ext_0, C.ext_1, C.ext3_0, C.ext3_1, C.ext3_2, C.guarded_yes, C.guarded_tf, C.guarded_ft, C.guarded_undef, Bool.not_true, Bool.not_false, Nat.zero_add, eq_self, decide_true, decide_false]
      rw [wrap64_id (n := (j : Int) + 1) (by omega), show (j : Int) + 1 = ((j + 1 : Nat) : Int) by omega]
      exact ih (j + 1) (by omega) h
theorem owner96_c {v : Value} {ms : Ows} {p : Int} (hv : RdS w v 3 (owC ms)) (hl : ms.length ≤ 1000) (h : ∀ w', Fr [] w w' → K (.tuple #[.int .i64 (ownL ms p).1, .int .i64 (ownL ms p).2]) w') :
    C.call Try.prog 96 #[v, .int .i64 p] w K :=
  F96.sh (owner_l hv hl ms.length 0 (by omega) (by rw [List.drop_zero]; exact h))
theorem page_l {v : Value} {ms : Ows} {t k : Int} (hv : RdS w v 3 (owC ms)) (hl : ms.length ≤ 1000) :
    ∀ (d j : Nat), ms.length = j + d → K (.int .i64 (pageL (ms.drop j) (t, k))) w → F99.l2 K v (.int .i64 t) (.int .i64 k) (.int .i64 (j : Int)) w := by
  intro d
  induction d with
  | zero =>
    intro j hd h
    refine F99.l2.to (C.len_rd hv ?_)
    simp only [C.ite_true, C.ite_false, C.pick_true, C.pick_false, C.not_bool, C.field_ptr, C.nilCheck_ptr, C.add_mk, C.sub_mk, C.mul_mk, C.eql_mk, C.neq_mk, C.lss_mk, C.leq_mk, C.gtr_mk, C.geq_mk, C.conv_mk, C.len_mk, C.ext_0, C.ext_1, C.ext3_0, C.ext3_1, C.ext3_2, C.guarded_yes, C.guarded_tf, C.guarded_ft, C.guarded_undef, Bool.not_true, Bool.not_false, Nat.zero_add, eq_self, decide_true, decide_false, owC_len, show ¬ ((j : Int) < (ms.length : Int)) by omega]
    rw [List.drop_of_length_le (by omega)] at h
    exact F99.k6.to h
  | succ d ih =>
    intro j hd h
    have jl : j < ms.length := by omega
    rw [pageL_drop jl] at h
    have next : K (.int .i64 (pageL (ms.drop (j + 1)) (t, k))) w → F99.k3 K v (.int .i64 t) (.int .i64 k) (.int .i64 (j : Int)) w := fun h => by
      refine F99.k3.to ?_
      simp only [C.ite_true, C.ite_false, C.pick_true, C.pick_false, C.not_bool, C.field_ptr, C.nilCheck_ptr, C.add_mk, C.sub_mk, C.mul_mk, C.eql_mk, C.neq_mk, C.lss_mk, C.leq_mk, C.gtr_mk, C.geq_mk, C.conv_mk, C.len_mk, C.ext_0, C.ext_1, C.ext3_0, C.ext3_1, C.ext3_2, C.guarded_yes, C.guarded_tf, C.guarded_ft, C.guarded_undef, Bool.not_true, Bool.not_false, Nat.zero_add, eq_self, decide_true, decide_false]
      rw [wrap64_id (n := (j : Int) + 1) (by omega), show (j : Int) + 1 = ((j + 1 : Nat) : Int) by omega]
      exact ih (j + 1) (by omega) h
    refine F99.l2.to (C.len_rd hv ?_)
    simp only [C.ite_true, C.ite_false, C.pick_true, C.pick_false, C.not_bool, C.field_ptr, C.nilCheck_ptr, C.add_mk, C.sub_mk, C.mul_mk, C.eql_mk, C.neq_mk, C.lss_mk, C.leq_mk, C.gtr_mk, C.geq_mk, C.conv_mk, C.len_mk, C.ext_0, C.ext_1, C.ext3_0, C.ext3_1, C.ext3_2, C.guarded_yes, C.guarded_tf, C.guarded_ft, C.guarded_undef, Bool.not_true, Bool.not_false, Nat.zero_add, eq_self, decide_true, decide_false, owC_len, show ((j : Int) < (ms.length : Int)) by omega]
    refine F99.k4.to (C.idx_rd hv (by omega) (by rw [Int.toNat_natCast]; exact owC_get jl) fun g o cs e fz hg hlen hc => ?_)
    simp only [C.ite_true, C.ite_false, C.pick_true, C.pick_false, C.not_bool, C.field_ptr, C.nilCheck_ptr, C.add_mk, C.sub_mk, C.mul_mk, C.eql_mk, C.neq_mk, C.lss_mk, C.leq_mk, C.gtr_mk, C.geq_mk, C.conv_mk, C.len_mk, C.ext_0, C.ext_1, C.ext3_0, C.ext3_1, C.ext3_2, C.guarded_yes, C.guarded_tf, C.guarded_ft, C.guarded_undef, Bool.not_true, Bool.not_false, Nat.zero_add, eq_self, decide_true, decide_false]
    refine C.load1_of (v := .int .i64 ms[j].1.1) hg (by simpa using hc 0 (by omega)) ?_
    by_cases c : ms[j].1.1 = t
    · simp only [C.ite_true, C.ite_false, C.pick_true, C.pick_false, C.not_bool, C.field_ptr, C.nilCheck_ptr, C.add_mk, C.sub_mk, C.mul_mk, C.eql_mk, C.neq_mk, C.lss_mk, C.leq_mk, C.gtr_mk, C.geq_mk, C.conv_mk, C.len_mk, C.ext_0, C.ext_1, C.ext3_0, C.ext3_1, C.ext3_2, C.guarded_yes, C.guarded_tf, C.guarded_ft, C.guarded_undef, Bool.not_true, Bool.not_false, Nat.zero_add, eq_self, decide_true, decide_false, c]
      refine C.idx_rd hv (by omega) (by rw [Int.toNat_natCast]; exact owC_get jl) fun g o cs e fz hg hlen hc => ?_
      simp only [C.ite_true, C.ite_false, C.pick_true, C.pick_false, C.not_bool, C.field_ptr, C.nilCheck_ptr, C.add_mk, C.sub_mk, C.mul_mk, C.eql_mk, C.neq_mk, C.lss_mk, C.leq_mk, C.gtr_mk, C.geq_mk, C.conv_mk, C.len_mk, C.ext_0, C.ext_1, C.ext3_0, C.ext3_1, C.ext3_2, C.guarded_yes, C.guarded_tf, C.guarded_ft, C.guarded_undef, Bool.not_true, Bool.not_false, Nat.zero_add, eq_self, decide_true, decide_false]
      refine C.load1_of (v := .int .i64 ms[j].1.2) hg (by simpa using hc 1 (by omega)) ?_
      by_cases c2 : ms[j].1.2 = k
      · rw [if_pos ⟨c, c2⟩] at h
        simp only [C.ite_true, C.ite_false, C.pick_true, C.pick_false, C.not_bool, C.field_ptr, C.nilCheck_ptr, C.add_mk, C.sub_mk, C.mul_mk, C.eql_mk, C.neq_mk, C.lss_mk, C.leq_mk, C.gtr_mk, C.geq_mk, C.conv_mk, C.len_mk, C.ext_0, C.ext_1, C.ext3_0, C.ext3_1, C.ext3_2, C.guarded_yes, C.guarded_tf, C.guarded_ft, C.guarded_undef, Bool.not_true, Bool.not_false, Nat.zero_add, eq_self, decide_true, decide_false, c2]
        refine C.idx_rd hv (by omega) (by rw [Int.toNat_natCast]; exact owC_get jl) fun g o cs e fz hg hlen hc => ?_
        simp only [C.ite_true, C.ite_false, C.pick_true, C.pick_false, C.not_bool, C.field_ptr, C.nilCheck_ptr, C.add_mk, C.sub_mk, C.mul_mk, C.eql_mk, C.neq_mk, C.lss_mk, C.leq_mk, C.gtr_mk, C.geq_mk, C.conv_mk, C.len_mk, C.ext_0, C.ext_1, C.ext3_0, C.ext3_1, C.ext3_2, C.guarded_yes, C.guarded_tf, C.guarded_ft, C.guarded_undef, Bool.not_true, Bool.not_false, Nat.zero_add, eq_self, decide_true, decide_false]
        exact C.load1_of (v := .int .i64 ms[j].2) hg (by simpa using hc 2 (by omega)) h
      · rw [if_neg (fun e => c2 e.2)] at h
        simp only [C.ite_true, C.ite_false, C.pick_true, C.pick_false, C.not_bool, C.field_ptr, C.nilCheck_ptr, C.add_mk, C.sub_mk, C.mul_mk, C.eql_mk, C.neq_mk, C.lss_mk, C.leq_mk, C.gtr_mk, C.geq_mk, C.conv_mk, C.len_mk, C.ext_0, C.ext_1, C.ext3_0, C.ext3_1, C.ext3_2, C.guarded_yes, C.guarded_tf, C.guarded_ft, C.guarded_undef, Bool.not_true, Bool.not_false, Nat.zero_add, eq_self, decide_true, decide_false, c2]
        exact next h
    · rw [if_neg (fun e => c e.1)] at h
      simp only [C.ite_true, C.ite_false, C.pick_true, C.pick_false, C.not_bool, C.field_ptr, C.nilCheck_ptr, C.add_mk, C.sub_mk, C.mul_mk, C.eql_mk, C.neq_mk, C.lss_mk, C.leq_mk, C.gtr_mk, C.geq_mk, C.conv_mk, C.len_mk, C.ext_0, C.ext_1, C.ext3_0, C.ext3_1, C.ext3_2, C.guarded_yes, C.guarded_tf, C.guarded_ft, C.guarded_undef, Bool.not_true, Bool.not_false, Nat.zero_add, eq_self, decide_true, decide_false, c]
      exact next h
theorem page99_c {v : Value} {ms : Ows} {t k : Int} (hv : RdS w v 3 (owC ms)) (hl : ms.length ≤ 1000) (h : K (.int .i64 (pageL ms (t, k))) w) :
    C.call Try.prog 99 #[v, .int .i64 t, .int .i64 k] w K :=
  F99.sh (page_l hv hl ms.length 0 (by omega) (by rw [List.drop_zero]; exact h))
end
end Go.Proofs.YtfdpmgddlaamcaaV
