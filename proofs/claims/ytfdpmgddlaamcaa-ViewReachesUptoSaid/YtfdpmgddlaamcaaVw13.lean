/- ViewReaches: what the call comes to. -/
import Derived.Test.YtfdpmgddlaamcaaVw12
namespace Go.Proofs.YtfdpmgddlaamcaaV
open Go Go.Proofs Go.RowKit
set_option linter.unusedVariables false
set_option linter.unusedSimpArgs false
set_option maxRecDepth 10000
section
variable {K : VK} {w : World}
theorem reaches_has {W : World} {b : Nat} {rv nv y3 y4 : Value} {V : Vw} {l : List Int} {n i : Nat} (hV : IsV W rv nv V) (hb : VB W b rv nv) (hr : RdS W y4 1 (intC l)) (hi : i < V.2.length) (hin : V.2[i].1 ∈ l)
    (h : ∀ w', Fr [] W w' → F7.k12 K (.pointer (some ⟨b, 0, none⟩)) y3 y4 (.int .i64 (n : Int)) (.int .i64 (i : Int)) w') :
    ∀ (d k : Nat) (ok : Bool) (w : World), l.length = k + d → Fr [] W w → (ok = false → ∀ j (hj : j < l.length), j < k → l[j] ≠ V.2[i].1) → F7.l17 K (.pointer (some ⟨b, 0, none⟩)) y3 y4 (.int .i64 (n : Int)) (.int .i64 (i : Int)) (.bool ok) (.int .i64 (k : Int)) w := by
  have hle := hr.le
  rw [intC_len] at hle
  intro d
  induction d with
  | zero =>
    intro k ok w hk hf ho
    refine F7.l17.to (C.len_rd (hr.keep hf) ?_)
    rw [intC_len]
    simp only [C.ite_true, C.ite_false, C.pick_true, C.pick_false, C.not_bool, C.field_ptr, C.nilCheck_ptr, C.add_mk, C.sub_mk, C.mul_mk, C.eql_mk, C.neq_mk, C.lss_mk, C.leq_mk, C.gtr_mk, C.geq_mk, C.conv_mk, C.len_mk, C.ext_0, C.ext_1, C.ext3_0, C.ext3_1, C.ext3_2, C.guarded_yes, C.guarded_tf, C.guarded_ft, C.guarded_undef, Bool.not_true, Bool.not_false, Nat.zero_add, eq_self, decide_true, decide_false, show ¬ ((k : Int) < (l.length : Int)) by omega]
    refine F7.k20.to ?_
    have : ok = true := by
      cases ok with
      | true => rfl
      | false =>
        obtain ⟨j, hj, he⟩ := List.getElem_of_mem hin
        exact absurd he (ho rfl j hj (by omega))
    subst this
    simp only [C.ite_true, C.ite_false, C.pick_true, C.pick_false, C.not_bool, C.field_ptr, C.nilCheck_ptr, C.add_mk, C.sub_mk, C.mul_mk, C.eql_mk, C.neq_mk, C.lss_mk, C.leq_mk, C.gtr_mk, C.geq_mk, C.conv_mk, C.len_mk, C.ext_0, C.ext_1, C.ext3_0, C.ext3_1, C.ext3_2, C.guarded_yes, C.guarded_tf, C.guarded_ft, C.guarded_undef, Bool.not_true, Bool.not_false, Nat.zero_add, eq_self, decide_true, decide_false]
    exact h w hf
  | succ d ih =>
    intro k ok w hk hf ho
    have kl : k < l.length := by omega
    refine F7.l17.to (C.len_rd (hr.keep hf) ?_)
    rw [intC_len]
    simp only [C.ite_true, C.ite_false, C.pick_true, C.pick_false, C.not_bool, C.field_ptr, C.nilCheck_ptr, C.add_mk, C.sub_mk, C.mul_mk, C.eql_mk, C.neq_mk, C.lss_mk, C.leq_mk, C.gtr_mk, C.geq_mk, C.conv_mk, C.len_mk, C.ext_0, C.ext_1, C.ext3_0, C.ext3_1, C.ext3_2, C.guarded_yes, C.guarded_tf, C.guarded_ft, C.guarded_undef, Bool.not_true, Bool.not_false, Nat.zero_add, eq_self, decide_true, decide_false, show ((k : Int) < (l.length : Int)) by omega]
    have nx : ∀ (ok' : Bool) w', Fr [] W w' → (ok' = false → ∀ j (hj : j < l.length), j < k + 1 → l[j] ≠ V.2[i].1) → F7.k18 K (.pointer (some ⟨b, 0, none⟩)) y3 y4 (.int .i64 (n : Int)) (.int .i64 (i : Int)) (.bool ok') (.int .i64 (k : Int)) w' := fun ok' w' hw ho' => by
      refine F7.k18.to ?_
      simp only [C.ite_true, C.ite_false, C.pick_true, C.pick_false, C.not_bool, C.field_ptr, C.nilCheck_ptr, C.add_mk, C.sub_mk, C.mul_mk, C.eql_mk, C.neq_mk, C.lss_mk, C.leq_mk, C.gtr_mk, C.geq_mk, C.conv_mk, C.len_mk, C.ext_0, C.ext_1, C.ext3_0, C.ext3_1, C.ext3_2, C.guarded_yes, C.guarded_tf, C.guarded_ft, C.guarded_undef, Bool.not_true, Bool.not_false, Nat.zero_add, eq_self, decide_true, decide_false]
      rw [wrap64_id (n := (k : Int) + 1) (by omega), show (k : Int) + 1 = ((k + 1 : Nat) : Int) by omega]
      exact ih (k + 1) ok' w' (by omega) hw ho'
    refine F7.k19.to (C.draw_of (fun w' => Fr [] W w') fun w1 hf1 he1 => ⟨hf.trans hf1, ?_⟩)
    have f1 := hf.trans hf1
    cases ok with
    | true =>
      simp only [C.ite_true, C.ite_false, C.pick_true, C.pick_false, C.not_bool, C.field_ptr, C.nilCheck_ptr, C.add_mk, C.sub_mk, C.mul_mk, C.eql_mk, C.neq_mk, C.lss_mk, C.leq_mk, C.gtr_mk, C.geq_mk, C.conv_mk, C.len_mk, C.ext_0, C.ext_1, C.ext3_0, C.ext3_1, C.ext3_2, C.guarded_yes, C.guarded_tf, C.guarded_ft, C.guarded_undef, Bool.not_true, Bool.not_false, Nat.zero_add, eq_self, decide_true, decide_false]
      exact nx true w1 f1 fun c => by cases c
    | false =>
      simp only [C.ite_true, C.ite_false, C.pick_true, C.pick_false, C.not_bool, C.field_ptr, C.nilCheck_ptr, C.add_mk, C.sub_mk, C.mul_mk, C.eql_mk, C.neq_mk, C.lss_mk, C.leq_mk, C.gtr_mk, C.geq_mk, C.conv_mk, C.len_mk, C.ext_0, C.ext_1, C.ext3_0, C.ext3_1, C.ext3_2, C.guarded_yes, C.guarded_tf, C.guarded_ft, C.guarded_undef, Bool.not_true, Bool.not_false, Nat.zero_add, eq_self, decide_true, decide_false]
      refine C.idx_rdS (S := fun w2 => Fr [] W w2) (fun w2 hw => hr.keep hw) f1 (by omega) (by rw [Int.toNat_natCast]; exact intC_get kl) fun ga oa _ hs1 => ?_
      try simp only [C.ite_true, C.ite_false, C.pick_true, C.pick_false, C.not_bool, C.field_ptr, C.nilCheck_ptr, C.add_mk, C.sub_mk, C.mul_mk, C.eql_mk, C.neq_mk, C.lss_mk, C.leq_mk, C.gtr_mk, C.geq_mk, C.conv_mk, C.len_mk, C.ext_0, C.ext_1, C.ext3_0, C.ext3_1, C.ext3_2, C.guarded_yes, C.guarded_tf, C.guarded_ft, C.guarded_undef, Bool.not_true, Bool.not_false, Nat.zero_add, eq_self, decide_true, decide_false]
      refine C.load1S_of (v := .int .i64 l[k]) (fun w' hw => by obtain ⟨cs, e, fz, x, y⟩ := hs1 w' hw; exact ⟨cs, e, fz, x, by simpa using y 0 (by simp)⟩) ?_
      refine hb.s rfl (hV.nodes.getS f1 hi fun g o f hr' hs0 hs1' => ?_)
      simp only [C.ite_true, C.ite_false, C.pick_true, C.pick_false, C.not_bool, C.field_ptr, C.nilCheck_ptr, C.add_mk, C.sub_mk, C.mul_mk, C.eql_mk, C.neq_mk, C.lss_mk, C.leq_mk, C.gtr_mk, C.geq_mk, C.conv_mk, C.len_mk, C.ext_0, C.ext_1, C.ext3_0, C.ext3_1, C.ext3_2, C.guarded_yes, C.guarded_tf, C.guarded_ft, C.guarded_undef, Bool.not_true, Bool.not_false, Nat.zero_add, eq_self, decide_true, decide_false]
      refine C.load1S_of hs0 ?_
      by_cases he : l[k] = V.2[i].1
      · simp only [C.ite_true, C.ite_false, C.pick_true, C.pick_false, C.not_bool, C.field_ptr, C.nilCheck_ptr, C.add_mk, C.sub_mk, C.mul_mk, C.eql_mk, C.neq_mk, C.lss_mk, C.leq_mk, C.gtr_mk, C.geq_mk, C.conv_mk, C.len_mk, C.ext_0, C.ext_1, C.ext3_0, C.ext3_1, C.ext3_2, C.guarded_yes, C.guarded_tf, C.guarded_ft, C.guarded_undef, Bool.not_true, Bool.not_false, Nat.zero_add, eq_self, decide_true, decide_false, he]
        exact nx true w1 f1 fun c => by cases c
      · simp only [C.ite_true, C.ite_false, C.pick_true, C.pick_false, C.not_bool, C.field_ptr, C.nilCheck_ptr, C.add_mk, C.sub_mk, C.mul_mk, C.eql_mk, C.neq_mk, C.lss_mk, C.leq_mk, C.gtr_mk, C.geq_mk, C.conv_mk, C.len_mk, C.ext_0, C.ext_1, C.ext3_0, C.ext3_1, C.ext3_2, C.guarded_yes, C.guarded_tf, C.guarded_ft, C.guarded_undef, Bool.not_true, Bool.not_false, Nat.zero_add, eq_self, decide_true, decide_false, he]
        refine nx false w1 f1 fun _ j hj hjk => ?_
        by_cases e : j = k
        · subst e; exact he
        · exact ho rfl j hj (by omega)
theorem reaches_all {W : World} {b : Nat} {rv nv y3 y4 : Value} {V : Vw} (hV : IsV W rv nv V) (hb : VB W b rv nv) (hm : RdS W y3 1 (boolC (metL V))) (hr : RdS W y4 1 (intC (reachL V))) (h : ∀ w', Fr [] W w' → K (.bool true) w') :
    ∀ (d i : Nat) (w : World), V.2.length = i + d → Fr [] W w → F7.l11 K (.pointer (some ⟨b, 0, none⟩)) y3 y4 (.int .i64 ((serT V.2 (metL V) i).length : Int)) (.int .i64 (i : Int)) w := by
  have hle := hV.nodes.le
  intro d
  induction d with
  | zero =>
    intro i w hi hf
    obtain rfl : i = V.2.length := by omega
    refine F7.l11.to (C.len_rd hm ?_)
    rw [boolC_len, metL_len]
    simp only [C.ite_true, C.ite_false, C.pick_true, C.pick_false, C.not_bool, C.field_ptr, C.nilCheck_ptr, C.add_mk, C.sub_mk, C.mul_mk, C.eql_mk, C.neq_mk, C.lss_mk, C.leq_mk, C.gtr_mk, C.geq_mk, C.conv_mk, C.len_mk, C.ext_0, C.ext_1, C.ext3_0, C.ext3_1, C.ext3_2, C.guarded_yes, C.guarded_tf, C.guarded_ft, C.guarded_undef, Bool.not_true, Bool.not_false, Nat.zero_add, eq_self, decide_true, decide_false, show ¬ ((V.2.length : Int) < (V.2.length : Int)) by omega]
    refine F7.k22.to (C.len_rd hr ?_)
    rw [intC_len, show (reachL V).length = (serT V.2 (metL V) V.2.length).length from srt_len _]
    simp only [C.ite_true, C.ite_false, C.pick_true, C.pick_false, C.not_bool, C.field_ptr, C.nilCheck_ptr, C.add_mk, C.sub_mk, C.mul_mk, C.eql_mk, C.neq_mk, C.lss_mk, C.leq_mk, C.gtr_mk, C.geq_mk, C.conv_mk, C.len_mk, C.ext_0, C.ext_1, C.ext3_0, C.ext3_1, C.ext3_2, C.guarded_yes, C.guarded_tf, C.guarded_ft, C.guarded_undef, Bool.not_true, Bool.not_false, Nat.zero_add, eq_self, decide_true, decide_false]
    exact h w hf
  | succ d ih =>
    intro i w hi hf
    have il : i < V.2.length := by omega
    have im : i < (metL V).length := by rw [metL_len]; exact il
    have hs := serT_succ (m := metL V) il
    have hlen := serT_len V.2 (metL V) i
    have eget : (metL V)[i]? = some (metL V)[i] := List.getElem?_eq_getElem im
    refine F7.l11.to (C.len_rd hm ?_)
    rw [boolC_len, metL_len]
    simp only [C.ite_true, C.ite_false, C.pick_true, C.pick_false, C.not_bool, C.field_ptr, C.nilCheck_ptr, C.add_mk, C.sub_mk, C.mul_mk, C.eql_mk, C.neq_mk, C.lss_mk, C.leq_mk, C.gtr_mk, C.geq_mk, C.conv_mk, C.len_mk, C.ext_0, C.ext_1, C.ext3_0, C.ext3_1, C.ext3_2, C.guarded_yes, C.guarded_tf, C.guarded_ft, C.guarded_undef, Bool.not_true, Bool.not_false, Nat.zero_add, eq_self, decide_true, decide_false, show ((i : Int) < (V.2.length : Int)) by omega]
    have nx : ∀ w', Fr [] W w' → F7.k12 K (.pointer (some ⟨b, 0, none⟩)) y3 y4 (.int .i64 ((serT V.2 (metL V) (i + 1)).length : Int)) (.int .i64 (i : Int)) w' := fun w' hw => by
      refine F7.k12.to ?_
      simp only [C.ite_true, C.ite_false, C.pick_true, C.pick_false, C.not_bool, C.field_ptr, C.nilCheck_ptr, C.add_mk, C.sub_mk, C.mul_mk, C.eql_mk, C.neq_mk, C.lss_mk, C.leq_mk, C.gtr_mk, C.geq_mk, C.conv_mk, C.len_mk, C.ext_0, C.ext_1, C.ext3_0, C.ext3_1, C.ext3_2, C.guarded_yes, C.guarded_tf, C.guarded_ft, C.guarded_undef, Bool.not_true, Bool.not_false, Nat.zero_add, eq_self, decide_true, decide_false]
      rw [wrap64_id (n := (i : Int) + 1) (by omega), show (i : Int) + 1 = ((i + 1 : Nat) : Int) by omega]
      exact ih (i + 1) w' (by omega) hw
    refine F7.k13.to (C.idx_rd (hm.keep hf) (by omega) (by rw [Int.toNat_natCast]; exact boolC_get im) fun g oo cs e' fz hg _ hc => C.load1_of (v := .bool (metL V)[i]) hg (by simpa using hc 0 (by simp)) ?_)
    cases hmi : (metL V)[i] with
    | false =>
      rw [eget, hmi, if_neg (by simp), List.append_nil] at hs
      simp only [C.ite_true, C.ite_false, C.pick_true, C.pick_false, C.not_bool, C.field_ptr, C.nilCheck_ptr, C.add_mk, C.sub_mk, C.mul_mk, C.eql_mk, C.neq_mk, C.lss_mk, C.leq_mk, C.gtr_mk, C.geq_mk, C.conv_mk, C.len_mk, C.ext_0, C.ext_1, C.ext3_0, C.ext3_1, C.ext3_2, C.guarded_yes, C.guarded_tf, C.guarded_ft, C.guarded_undef, Bool.not_true, Bool.not_false, Nat.zero_add, eq_self, decide_true, decide_false]
      have := nx w hf
      rwa [hs] at this
    | true =>
      rw [eget, hmi, if_pos rfl] at hs
      simp only [C.ite_true, C.ite_false, C.pick_true, C.pick_false, C.not_bool, C.field_ptr, C.nilCheck_ptr, C.add_mk, C.sub_mk, C.mul_mk, C.eql_mk, C.neq_mk, C.lss_mk, C.leq_mk, C.gtr_mk, C.geq_mk, C.conv_mk, C.len_mk, C.ext_0, C.ext_1, C.ext3_0, C.ext3_1, C.ext3_2, C.guarded_yes, C.guarded_tf, C.guarded_ft, C.guarded_undef, Bool.not_true, Bool.not_false, Nat.zero_add, eq_self, decide_true, decide_false]
      refine F7.k14.to ?_
      simp only [C.ite_true, C.ite_false, C.pick_true, C.pick_false, C.not_bool, C.field_ptr, C.nilCheck_ptr, C.add_mk, C.sub_mk, C.mul_mk, C.eql_mk, C.neq_mk, C.lss_mk, C.leq_mk, C.gtr_mk, C.geq_mk, C.conv_mk, C.len_mk, C.ext_0, C.ext_1, C.ext3_0, C.ext3_1, C.ext3_2, C.guarded_yes, C.guarded_tf, C.guarded_ft, C.guarded_undef, Bool.not_true, Bool.not_false, Nat.zero_add, eq_self, decide_true, decide_false]
      have e : (serT V.2 (metL V) (i + 1)).length = (serT V.2 (metL V) i).length + 1 := by rw [hs]; simp
      rw [wrap64_id (by omega), show ((serT V.2 (metL V) i).length : Int) + 1 = (((serT V.2 (metL V) (i + 1)).length : Nat) : Int) by omega]
      have hin : V.2[i].1 ∈ reachL V := (srt_perm _).mem_iff.2 ((serT_mem (Nat.le_refl _)).2 ⟨i, il, il, by rw [eget, hmi], rfl⟩)
      exact reaches_has hV hb hr il hin nx (reachL V).length 0 false w (by omega) hf fun _ j hj hj0 => by omega
theorem reaches_ris {W : World} {b : Nat} {y3 y4 : Value} {l : List Int} (hr : RdS W y4 1 (intC l)) (hp : l.Pairwise (· < ·)) (h : ∀ w', Fr [] W w' → F7.k9 K (.pointer (some ⟨b, 0, none⟩)) y3 y4 w') :
    ∀ (d j : Nat) (w : World), l.length ≤ j + 1 + d → Fr [] W w → F7.l5 K (.pointer (some ⟨b, 0, none⟩)) y3 y4 (.int .i64 ((j + 1 : Nat) : Int)) w := by
  have hle := hr.le
  rw [intC_len] at hle
  have fin : ∀ (j : Nat) (w : World), l.length ≤ j + 1 → Fr [] W w → F7.l5 K (.pointer (some ⟨b, 0, none⟩)) y3 y4 (.int .i64 ((j + 1 : Nat) : Int)) w := fun j w hj hf => by
    refine F7.l5.to (C.len_rd (hr.keep hf) ?_)
    rw [intC_len]
    simp only [C.ite_true, C.ite_false, C.pick_true, C.pick_false, C.not_bool, C.field_ptr, C.nilCheck_ptr, C.add_mk, C.sub_mk, C.mul_mk, C.eql_mk, C.neq_mk, C.lss_mk, C.leq_mk, C.gtr_mk, C.geq_mk, C.conv_mk, C.len_mk, C.ext_0, C.ext_1, C.ext3_0, C.ext3_1, C.ext3_2, C.guarded_yes, C.guarded_tf, C.guarded_ft, C.guarded_undef, Bool.not_true, Bool.not_false, Nat.zero_add, eq_self, decide_true, decide_false, show ¬ (((j + 1 : Nat) : Int) < (l.length : Int)) by omega]
    exact h w hf
  intro d
  induction d with
  | zero => exact fun j w hj hf => fin j w (by omega) hf
  | succ d ih =>
    intro j w hj hf
    by_cases hjl : l.length ≤ j + 1
    · exact fin j w hjl hf
    have jl : j + 1 < l.length := by omega
    refine F7.l5.to (C.len_rd (hr.keep hf) ?_)
    rw [intC_len]
    simp only [C.ite_true, C.ite_false, C.pick_true, C.pick_false, C.not_bool, C.field_ptr, C.nilCheck_ptr, C.add_mk, C.sub_mk, C.mul_mk, C.eql_mk, C.neq_mk, C.lss_mk, C.leq_mk, C.gtr_mk, C.geq_mk, C.conv_mk, C.len_mk, C.ext_0, C.ext_1, C.ext3_0, C.ext3_1, C.ext3_2, C.guarded_yes, C.guarded_tf, C.guarded_ft, C.guarded_undef, Bool.not_true, Bool.not_false, Nat.zero_add, eq_self, decide_true, decide_false, show (((j + 1 : Nat) : Int) < (l.length : Int)) by omega]
    refine F7.k7.to (C.draw_of (fun w2 => Fr [] W w2) fun w1 hf1 he1 => ⟨hf.trans hf1, ?_⟩)
    have f1 := hf.trans hf1
    simp only [C.ite_true, C.ite_false, C.pick_true, C.pick_false, C.not_bool, C.field_ptr, C.nilCheck_ptr, C.add_mk, C.sub_mk, C.mul_mk, C.eql_mk, C.neq_mk, C.lss_mk, C.leq_mk, C.gtr_mk, C.geq_mk, C.conv_mk, C.len_mk, C.ext_0, C.ext_1, C.ext3_0, C.ext3_1, C.ext3_2, C.guarded_yes, C.guarded_tf, C.guarded_ft, C.guarded_undef, Bool.not_true, Bool.not_false, Nat.zero_add, eq_self, decide_true, decide_false]
    rw [wrap64_id (n := ((j + 1 : Nat) : Int) - 1) (by omega), show ((j + 1 : Nat) : Int) - 1 = (j : Int) by omega]
    refine C.idx_rdS (S := fun w2 => Fr [] W w2) (fun w2 hw => hr.keep hw) f1 (by omega) (by rw [Int.toNat_natCast]; exact intC_get jl) fun ga oa _ hs1 => ?_
    refine C.idx_rdS (S := fun w2 => Fr [] W w2) (fun w2 hw => hr.keep hw) f1 (by omega) (by rw [Int.toNat_natCast]; exact intC_get (l := l) (j := j) (by omega)) fun gb ob _ hs2 => ?_
    refine C.load1S_of (v := .int .i64 l[j + 1]) (fun w' hw => by obtain ⟨cs, e, fz, x, y⟩ := hs1 w' hw; exact ⟨cs, e, fz, x, by simpa using y 0 (by simp)⟩) ?_
    refine C.load1S_of (v := .int .i64 l[j]) (fun w' hw => by obtain ⟨cs, e, fz, x, y⟩ := hs2 w' hw; exact ⟨cs, e, fz, x, by simpa using y 0 (by simp)⟩) ?_
    have hlt := List.pairwise_iff_getElem.1 hp j (j + 1) (by omega) jl (by omega)
    have hne : ¬ (l[j + 1] ≤ l[j]) := by omega
    simp only [C.ite_true, C.ite_false, C.pick_true, C.pick_false, C.not_bool, C.field_ptr, C.nilCheck_ptr, C.add_mk, C.sub_mk, C.mul_mk, C.eql_mk, C.neq_mk, C.lss_mk, C.leq_mk, C.gtr_mk, C.geq_mk, C.conv_mk, C.len_mk, C.ext_0, C.ext_1, C.ext3_0, C.ext3_1, C.ext3_2, C.guarded_yes, C.guarded_tf, C.guarded_ft, C.guarded_undef, Bool.not_true, Bool.not_false, Nat.zero_add, eq_self, decide_true, decide_false, hne]
    refine F7.k6.to ?_
    simp only [C.ite_true, C.ite_false, C.pick_true, C.pick_false, C.not_bool, C.field_ptr, C.nilCheck_ptr, C.add_mk, C.sub_mk, C.mul_mk, C.eql_mk, C.neq_mk, C.lss_mk, C.leq_mk, C.gtr_mk, C.geq_mk, C.conv_mk, C.len_mk, C.ext_0, C.ext_1, C.ext3_0, C.ext3_1, C.ext3_2, C.guarded_yes, C.guarded_tf, C.guarded_ft, C.guarded_undef, Bool.not_true, Bool.not_false, Nat.zero_add, eq_self, decide_true, decide_false]
    rw [wrap64_id (n := ((j + 1 : Nat) : Int) + 1) (by omega), show ((j + 1 : Nat) : Int) + 1 = ((j + 1 + 1 : Nat) : Int) by omega]
    exact ih (j + 1) w1 (by omega) f1
theorem ViewReaches_c {rv nv : Value} {V : Vw} (hV : IsV w rv nv V) (hF : FitT V) (h : ∀ w', Fr [] w w' → K (.bool true) w') : C.call Try.prog 7 #[.agg #[rv, nv]] w K := by
  refine F7.sh (VB.new hV fun b w1 hf1 _ hb hV1 => alive_ok _ _ fun w2 hf2 => ?_)
  have hb2 := hb.keep hf2 (by simp)
  have hV2 := hV1.keep hf2
  have f2 := hf1.trans hf2
  simp only [C.ite_true, C.ite_false, C.pick_true, C.pick_false, C.not_bool, C.field_ptr, C.nilCheck_ptr, C.add_mk, C.sub_mk, C.mul_mk, C.eql_mk, C.neq_mk, C.lss_mk, C.leq_mk, C.gtr_mk, C.geq_mk, C.conv_mk, C.len_mk, C.ext_0, C.ext_1, C.ext3_0, C.ext3_1, C.ext3_2, C.guarded_yes, C.guarded_tf, C.guarded_ft, C.guarded_undef, Bool.not_true, Bool.not_false, Nat.zero_add, eq_self, decide_true, decide_false]
  refine F7.k3.to (C.draw_of (fun w' => Fr [] w2 w') fun w3 hf3 he3 => ⟨hf3, ?_⟩)
  refine C.loadAS_of (vs := [rv, nv]) (fun w' hw => ⟨_, _, _, hb2.keep hw (by simp), by simp, by simp⟩) (C.loadAS_of (vs := [rv, nv]) (fun w' hw => ⟨_, _, _, hb2.keep hw (by simp), by simp, by simp⟩) ?_)
  refine ⟨met_c (hV2.keep hf3) hF fun m w4 hf4 hn4 ho4 => ⟨hf3.trans hf4, ⟨Reach_c ((hV2.keep hf3).keep hf4) hF.toFitV fun y4 w5 hf5 hn5 hr5 => ⟨(hf3.trans hf4).trans hf5, ?_⟩, trivial⟩⟩, trivial⟩
  have f25 := (hf3.trans hf4).trans hf5
  refine reaches_ris hr5 (reachL_lt V) (fun w6 hf6 => F7.k9.to ?_) (reachL V).length 0 w5 (by omega) (Fr.refl _ _)
  exact reaches_all (W := w6) ((hV2.keep f25).keep hf6) ((hb2.keep f25 (by simp)).keep hf6 (by simp)) ((ho4.rd.keep hf5).keep hf6) (hr5.keep hf6) (fun w7 hf7 => h w7 (((f2.trans f25).trans hf6).trans hf7)) V.2.length 0 w6 (by omega) (Fr.refl _ _)
end
end Go.Proofs.YtfdpmgddlaamcaaV
