/- Library functions that only read lists of numbers: what each call comes to. -/
import Derived.Test.YtfdpmgddlaamcaaGLib
import Derived.Test.YtfdpmgddlaamcaaOwn
namespace Go.Proofs.YtfdpmgddlaamcaaV
open Go Go.Proofs Go.RowKit
set_option linter.unusedVariables false
set_option linter.unusedSimpArgs false

/-- Numbers, as cells. -/
def intC (l : List Int) : List (List Value) := l.map fun n => [.int .i64 n]
theorem intC_len (l : List Int) : (intC l).length = l.length := by simp [intC]
theorem intC_get {l : List Int} {j : Nat} (h : j < l.length) : (intC l)[j]? = some [.int .i64 l[j]] := by simp [intC, h]
theorem intC_app (l k : List Int) : intC (l ++ k) = intC l ++ intC k := by simp [intC]
theorem intC_of : ∀ (xs : List (List Value)), (∀ x ∈ xs, okCells [.int .i64] x) → ∃ l, xs = intC l ∧ ∀ n ∈ l, (Lit.int .i64 n).wf = true
  | [], _ => ⟨[], rfl, by simp⟩
  | x :: xs, h => by
    obtain ⟨l, hl, hw⟩ := intC_of xs fun y hy => h y (by simp [hy])
    obtain ⟨n, hx, hn⟩ := ok1 (h x (by simp))
    refine ⟨n :: l, by rw [hl, hx]; rfl, fun m hm => ?_⟩
    rcases List.mem_cons.1 hm with rfl | hm
    · exact hn
    · exact hw m hm
theorem list_eq_of_get {α : Type} {a b : List α} (hl : a.length = b.length) (h : ∀ (i : Nat) (h1 : i < a.length) (h2 : i < b.length), a[i] = b[i]) : a = b := List.ext_getElem hl h
section
variable {K : VK} {w : World}
/-- An element of a slice, a number. -/
theorem C.idx_int {v : Value} {l : List Int} {k : IntKind} {i : Nat} (h : RdS w v 1 (intC l)) (hi : i < l.length) (hk : ∀ g o cs e fz, w.heap[g]? = some (.cells cs e fz) → cs[o]? = some (.int .i64 l[i]) → K (.pointer (some ⟨g, o, none⟩)) w) :
    C.idx 1 v (.int k (i : Int)) w K := by
  refine C.idx_rd h (by omega) (by rw [Int.toNat_natCast]; exact intC_get hi) fun g o cs e fz hg _ hc => hk g o cs e fz hg ?_
  have := hc 0 (by omega)
  simpa using this
theorem Ints_loop {a b : Value} {x y : List Int} (hl : x.length = y.length) :
    ∀ (d j : Nat) (w : World), x.length = j + d → RdS w a 1 (intC x) → RdS w b 1 (intC y) → (∀ i (h1 : i < x.length) (h2 : i < y.length), i < j → x[i] = y[i]) → (∀ w', Fr [] w w' → K (.bool (decide (x = y))) w') → F51.l4 K a b (.int .i64 (j : Int)) w := by
  intro d
  induction d with
  | zero =>
    intro j w hd ha hb he h
    refine F51.l4.to (C.len_rd ha ?_)
    have e : ¬ ((j : Int) < ((intC x).length : Int)) := by rw [intC_len]; omega
    simp only [C.ite_true, C.ite_false, C.pick_true, C.pick_false, C.not_bool, C.field_ptr, C.nilCheck_ptr, C.add_mk, C.sub_mk, C.mul_mk, C.eql_mk, C.neq_mk, C.lss_mk, C.leq_mk, C.gtr_mk, C.geq_mk, C.conv_mk, C.len_mk, C.ext_0, C.ext_1, C.ext3_0, C.ext3_1, C.ext3_2, C.guarded_yes, C.guarded_tf, C.guarded_ft, C.guarded_undef, Bool.not_true, Bool.not_false, Nat.zero_add, eq_self, decide_true, decide_false, e]
    refine F51.k8.to ?_
    have : x = y := list_eq_of_get hl fun i h1 h2 => he i h1 h2 (by omega)
    have h := h w (Fr.refl _ _)
    rw [decide_eq_true this] at h
    exact h
  | succ d ih =>
    intro j w hd ha hb he h
    have hle := ha.le
    rw [intC_len] at hle
    refine F51.l4.to (C.len_rd ha ?_)
    have e : ((j : Int) < ((intC x).length : Int)) := by rw [intC_len]; omega
    simp only [C.ite_true, C.ite_false, C.pick_true, C.pick_false, C.not_bool, C.field_ptr, C.nilCheck_ptr, C.add_mk, C.sub_mk, C.mul_mk, C.eql_mk, C.neq_mk, C.lss_mk, C.leq_mk, C.gtr_mk, C.geq_mk, C.conv_mk, C.len_mk, C.ext_0, C.ext_1, C.ext3_0, C.ext3_1, C.ext3_2, C.guarded_yes, C.guarded_tf, C.guarded_ft, C.guarded_undef, Bool.not_true, Bool.not_false, Nat.zero_add, eq_self, decide_true, decide_false, e]
    refine F51.k6.to ?_
    have jx : j < x.length := by omega
    have jy : j < y.length := by omega
    refine C.draw_of (fun w' => w'.heap = w.heap ∧ RdS w' a 1 (intC x) ∧ RdS w' b 1 (intC y)) fun w1 hf1 he1 => ⟨⟨he1, ha.keep hf1, hb.keep hf1⟩, ?_⟩
    refine C.idx_rdS (S := fun w' => w'.heap = w.heap ∧ RdS w' a 1 (intC x) ∧ RdS w' b 1 (intC y)) (fun w' h => h.2.1) ⟨he1, ha.keep hf1, hb.keep hf1⟩ (by omega) (by rw [Int.toNat_natCast]; exact intC_get jx) fun g o hl1 hs1 => ?_
    refine C.idx_rdS (S := fun w' => w'.heap = w.heap ∧ RdS w' a 1 (intC x) ∧ RdS w' b 1 (intC y)) (fun w' h => h.2.2) ⟨he1, ha.keep hf1, hb.keep hf1⟩ (by omega) (by rw [Int.toNat_natCast]; exact intC_get jy) fun g' o' hl2 hs2 => ?_
    refine C.load1S_of (v := .int .i64 x[j]) (fun w' hw => ?_) (C.load1S_of (v := .int .i64 y[j]) (fun w' hw => ?_) ?_)
    · obtain ⟨cs, e, fz, hg, hc⟩ := hs1 w' hw
      exact ⟨cs, e, fz, hg, by simpa using hc 0 (by omega)⟩
    · obtain ⟨cs, e, fz, hg, hc⟩ := hs2 w' hw
      exact ⟨cs, e, fz, hg, by simpa using hc 0 (by omega)⟩
    simp only [C.ite_true, C.ite_false, C.pick_true, C.pick_false, C.not_bool, C.field_ptr, C.nilCheck_ptr, C.add_mk, C.sub_mk, C.mul_mk, C.eql_mk, C.neq_mk, C.lss_mk, C.leq_mk, C.gtr_mk, C.geq_mk, C.conv_mk, C.len_mk, C.ext_0, C.ext_1, C.ext3_0, C.ext3_1, C.ext3_2, C.guarded_yes, C.guarded_tf, C.guarded_ft, C.guarded_undef, Bool.not_true, Bool.not_false, Nat.zero_add, eq_self, decide_true, decide_false]
    by_cases hxy : x[j] = y[j]
    · simp only [C.ite_true, C.ite_false, C.pick_true, C.pick_false, C.not_bool, C.field_ptr, C.nilCheck_ptr, C.add_mk, C.sub_mk, C.mul_mk, C.eql_mk, C.neq_mk, C.lss_mk, C.leq_mk, C.gtr_mk, C.geq_mk, C.conv_mk, C.len_mk, C.ext_0, C.ext_1, C.ext3_0, C.ext3_1, C.ext3_2, C.guarded_yes, C.guarded_tf, C.guarded_ft, C.guarded_undef, Bool.not_true, Bool.not_false, Nat.zero_add, eq_self, decide_true, decide_false, hxy, ne_eq, not_true_eq_false]
      refine F51.k5.to ?_
      simp only [C.ite_true, C.ite_false, C.pick_true, C.pick_false, C.not_bool, C.field_ptr, C.nilCheck_ptr, C.add_mk, C.sub_mk, C.mul_mk, C.eql_mk, C.neq_mk, C.lss_mk, C.leq_mk, C.gtr_mk, C.geq_mk, C.conv_mk, C.len_mk, C.ext_0, C.ext_1, C.ext3_0, C.ext3_1, C.ext3_2, C.guarded_yes, C.guarded_tf, C.guarded_ft, C.guarded_undef, Bool.not_true, Bool.not_false, Nat.zero_add, eq_self, decide_true, decide_false]
      rw [wrap64_id (n := (j : Int) + 1) (by omega), show (j : Int) + 1 = ((j + 1 : Nat) : Int) by omega]
      refine ih (j + 1) w1 (by omega) (ha.keep hf1) (hb.keep hf1) (fun i h1 h2 hi => ?_) (fun w' hf => h w' (hf1.trans hf))
      rcases Nat.lt_or_ge i j with h3 | h3
      · exact he i h1 h2 h3
      · obtain rfl : i = j := by omega
        exact hxy
    · simp only [C.ite_true, C.ite_false, C.pick_true, C.pick_false, C.not_bool, C.field_ptr, C.nilCheck_ptr, C.add_mk, C.sub_mk, C.mul_mk, C.eql_mk, C.neq_mk, C.lss_mk, C.leq_mk, C.gtr_mk, C.geq_mk, C.conv_mk, C.len_mk, C.ext_0, C.ext_1, C.ext3_0, C.ext3_1, C.ext3_2, C.guarded_yes, C.guarded_tf, C.guarded_ft, C.guarded_undef, Bool.not_true, Bool.not_false, Nat.zero_add, eq_self, decide_true, decide_false, hxy, ne_eq, not_false_eq_true]
      have : ¬ x = y := by rintro rfl; exact hxy rfl
      have h := h w1 hf1
      rw [decide_eq_false this] at h
      exact h
theorem Ints_c {a b : Value} {x y : List Int} (ha : RdS w a 1 (intC x)) (hb : RdS w b 1 (intC y)) (h : ∀ w', Fr [] w w' → K (.bool (decide (x = y))) w') : C.call Try.prog 51 #[a, b] w K := by
  refine F51.sh (C.len_rd ha (C.len_rd hb ?_))
  simp only [C.ite_true, C.ite_false, C.pick_true, C.pick_false, C.not_bool, C.field_ptr, C.nilCheck_ptr, C.add_mk, C.sub_mk, C.mul_mk, C.eql_mk, C.neq_mk, C.lss_mk, C.leq_mk, C.gtr_mk, C.geq_mk, C.conv_mk, C.len_mk, C.ext_0, C.ext_1, C.ext3_0, C.ext3_1, C.ext3_2, C.guarded_yes, C.guarded_tf, C.guarded_ft, C.guarded_undef, Bool.not_true, Bool.not_false, Nat.zero_add, eq_self, decide_true, decide_false, intC_len]
  by_cases hl : x.length = y.length
  · simp only [C.ite_true, C.ite_false, C.pick_true, C.pick_false, C.not_bool, C.field_ptr, C.nilCheck_ptr, C.add_mk, C.sub_mk, C.mul_mk, C.eql_mk, C.neq_mk, C.lss_mk, C.leq_mk, C.gtr_mk, C.geq_mk, C.conv_mk, C.len_mk, C.ext_0, C.ext_1, C.ext3_0, C.ext3_1, C.ext3_2, C.guarded_yes, C.guarded_tf, C.guarded_ft, C.guarded_undef, Bool.not_true, Bool.not_false, Nat.zero_add, eq_self, decide_true, decide_false, hl, ne_eq, not_true_eq_false]
    refine F51.k3.to ?_
    exact Ints_loop hl x.length 0 w (by omega) ha hb (fun i _ _ h => absurd h (by omega)) h
  · have e : ¬ ((x.length : Int) = (y.length : Int)) := by omega
    simp only [C.ite_true, C.ite_false, C.pick_true, C.pick_false, C.not_bool, C.field_ptr, C.nilCheck_ptr, C.add_mk, C.sub_mk, C.mul_mk, C.eql_mk, C.neq_mk, C.lss_mk, C.leq_mk, C.gtr_mk, C.geq_mk, C.conv_mk, C.len_mk, C.ext_0, C.ext_1, C.ext3_0, C.ext3_1, C.ext3_2, C.guarded_yes, C.guarded_tf, C.guarded_ft, C.guarded_undef, Bool.not_true, Bool.not_false, Nat.zero_add, eq_self, decide_true, decide_false, e, ne_eq, not_false_eq_true]
    have : ¬ x = y := by rintro rfl; exact hl rfl
    have h := h w (Fr.refl _ _)
    rw [decide_eq_false this] at h
    exact h
theorem mem_drop_iff {l : List Int} {j : Nat} (h : j < l.length) (n : Int) : n ∈ l.drop j ↔ n = l[j] ∨ n ∈ l.drop (j + 1) := by rw [List.drop_eq_getElem_cons h, List.mem_cons]
theorem In_loop {a : Value} {x : List Int} {n : Int} (ha : RdS w a 1 (intC x)) (j : Nat) :
    ∀ (d j : Nat), x.length = j + d → (K (.bool (decide (n ∈ x.drop j))) w) → F22.l2 K a (.int .i64 n) (.int .i64 (j : Int)) w := by
  intro d
  induction d with
  | zero =>
    intro j hd h
    refine F22.l2.to (C.len_rd ha ?_)
    have e : ¬ ((j : Int) < ((intC x).length : Int)) := by rw [intC_len]; omega
    simp only [C.ite_true, C.ite_false, C.pick_true, C.pick_false, C.not_bool, C.field_ptr, C.nilCheck_ptr, C.add_mk, C.sub_mk, C.mul_mk, C.eql_mk, C.neq_mk, C.lss_mk, C.leq_mk, C.gtr_mk, C.geq_mk, C.conv_mk, C.len_mk, C.ext_0, C.ext_1, C.ext3_0, C.ext3_1, C.ext3_2, C.guarded_yes, C.guarded_tf, C.guarded_ft, C.guarded_undef, Bool.not_true, Bool.not_false, Nat.zero_add, eq_self, decide_true, decide_false, e]
    refine F22.k6.to ?_
    rw [List.drop_of_length_le (by omega), decide_eq_false (by simp)] at h
    exact h
  | succ d ih =>
    intro j hd h
    have hle := ha.le
    rw [intC_len] at hle
    have jx : j < x.length := by omega
    refine F22.l2.to (C.len_rd ha ?_)
    have e : ((j : Int) < ((intC x).length : Int)) := by rw [intC_len]; omega
    simp only [C.ite_true, C.ite_false, C.pick_true, C.pick_false, C.not_bool, C.field_ptr, C.nilCheck_ptr, C.add_mk, C.sub_mk, C.mul_mk, C.eql_mk, C.neq_mk, C.lss_mk, C.leq_mk, C.gtr_mk, C.geq_mk, C.conv_mk, C.len_mk, C.ext_0, C.ext_1, C.ext3_0, C.ext3_1, C.ext3_2, C.guarded_yes, C.guarded_tf, C.guarded_ft, C.guarded_undef, Bool.not_true, Bool.not_false, Nat.zero_add, eq_self, decide_true, decide_false, e]
    refine F22.k4.to (C.idx_int ha jx fun g o cs e fz hg hc => C.load1_of hg hc ?_)
    simp only [C.ite_true, C.ite_false, C.pick_true, C.pick_false, C.not_bool, C.field_ptr, C.nilCheck_ptr, C.add_mk, C.sub_mk, C.mul_mk, C.eql_mk, C.neq_mk, C.lss_mk, C.leq_mk, C.gtr_mk, C.geq_mk, C.conv_mk, C.len_mk, C.ext_0, C.ext_1, C.ext3_0, C.ext3_1, C.ext3_2, C.guarded_yes, C.guarded_tf, C.guarded_ft, C.guarded_undef, Bool.not_true, Bool.not_false, Nat.zero_add, eq_self, decide_true, decide_false]
    by_cases hn : x[j] = n
    · simp only [C.ite_true, C.ite_false, C.pick_true, C.pick_false, C.not_bool, C.field_ptr, C.nilCheck_ptr, C.add_mk, C.sub_mk, C.mul_mk, C.eql_mk, C.neq_mk, C.lss_mk, C.leq_mk, C.gtr_mk, C.geq_mk, C.conv_mk, C.len_mk, C.ext_0, C.ext_1, C.ext3_0, C.ext3_1, C.ext3_2, C.guarded_yes, C.guarded_tf, C.guarded_ft, C.guarded_undef, Bool.not_true, Bool.not_false, Nat.zero_add, eq_self, decide_true, decide_false, hn]
      rw [decide_eq_true ((mem_drop_iff jx n).2 (.inl hn.symm))] at h
      exact h
    · simp only [C.ite_true, C.ite_false, C.pick_true, C.pick_false, C.not_bool, C.field_ptr, C.nilCheck_ptr, C.add_mk, C.sub_mk, C.mul_mk, C.eql_mk, C.neq_mk, C.lss_mk, C.leq_mk, C.gtr_mk, C.geq_mk, C.conv_mk, C.len_mk, C.ext_0, C.ext_1, C.ext3_0, C.ext3_1, C.ext3_2, C.guarded_yes, C.guarded_tf, C.guarded_ft, C.guarded_undef, Bool.not_true, Bool.not_false, Nat.zero_add, eq_self, decide_true, decide_false, hn]
      refine F22.k3.to ?_
      simp only [C.ite_true, C.ite_false, C.pick_true, C.pick_false, C.not_bool, C.field_ptr, C.nilCheck_ptr, C.add_mk, C.sub_mk, C.mul_mk, C.eql_mk, C.neq_mk, C.lss_mk, C.leq_mk, C.gtr_mk, C.geq_mk, C.conv_mk, C.len_mk, C.ext_0, C.ext_1, C.ext3_0, C.ext3_1, C.ext3_2, C.guarded_yes, C.guarded_tf, C.guarded_ft, C.guarded_undef, Bool.not_true, Bool.not_false, Nat.zero_add, eq_self, decide_true, decide_false]
      rw [wrap64_id (n := (j : Int) + 1) (by omega), show (j : Int) + 1 = ((j + 1 : Nat) : Int) by omega]
      refine ih (j + 1) (by omega) ?_
      rw [show decide (n ∈ x.drop (j + 1)) = decide (n ∈ x.drop j) from decide_eq_decide.2 (by rw [mem_drop_iff jx]; constructor; exact .inr; rintro (h | h); exact absurd h.symm hn; exact h)]
      exact h
theorem In_c {a : Value} {x : List Int} {n : Int} (ha : RdS w a 1 (intC x)) (h : K (.bool (decide (n ∈ x))) w) : C.call Try.prog 22 #[a, .int .i64 n] w K := by
  refine F22.sh ?_
  exact In_loop ha 0 x.length 0 (by omega) (by rw [List.drop_zero]; exact h)
end
end Go.Proofs.YtfdpmgddlaamcaaV
