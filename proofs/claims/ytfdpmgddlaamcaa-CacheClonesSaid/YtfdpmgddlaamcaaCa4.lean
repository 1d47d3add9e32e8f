/- The cache of pages: a page set. -/
import Derived.Test.YtfdpmgddlaamcaaCa3
namespace Go.Proofs.YtfdpmgddlaamcaaV
open Go Go.Proofs Go.RowKit
set_option linter.unusedVariables false
set_option linter.unusedSimpArgs false
set_option maxRecDepth 10000
def setL (l : List ((Int × Int) × Value × Nat)) (a : Int × Int) (p : Int) (c : Nat) : List ((Int × Int) × Value × Nat) × Nat := match fnd a l 0 with
  | none => (l ++ [(a, .int .i64 p, c)], c + 1)
  | some (j, _) => (l.set j (a, .int .i64 p, (l[j]?.map fun x => x.2.2).getD 0), c)
theorem csz_zero {k : Int} : csz k = 0 ↔ k < 1 ∨ k ≥ 5 := by
  unfold csz
  by_cases h1 : k = 1
  · simp [h1]
  by_cases h2 : k = 2
  · simp [h2]
  by_cases h3 : k = 3
  · simp [h3]
  by_cases h4 : k = 4
  · simp [h4]
  simp only [h1, h2, h3, h4, if_false, true_iff]
  omega
section
variable {K : VK} {w : World}
theorem eq_map_nil (x y : Operand) (m : Nat) : (do eqGuard .eql 44 x y (.map (some m)) (.map none); binOp .eql 44 (.map (some m)) (.map none) : Sem Value).run Try.prog w = .ok (.bool false) w := by
  have h : ∀ d, (Op.equalIn (d + 1) 44 (.map (some m)) (.map none)).run Try.prog w = .ok false w := fun d => by simp [Op.equalIn, run_underlying Try.underlying44]
  exact eqS_eql (by simp [eqGuard]) rfl (h 9999)
theorem Set_c {b m c : Nat} {n t k p : Int} {l : List ((Int × Int) × Value × Nat)} (hC : IsC w b m n l c) (hg : Good l c)
    (h0 : ¬ (0 ≤ t ∧ t < n ∧ csz k ≠ 0 ∧ 0 ≤ p ∧ p < 64 ∧ (ownerOf l p).1 < 0) → ∀ w', Fr [] w w' → K (.bool false) w')
    (h1 : (0 ≤ t ∧ t < n ∧ csz k ≠ 0 ∧ 0 ≤ p ∧ p < 64 ∧ (ownerOf l p).1 < 0) → ∀ w', Fr [m] w w' → IsC w' b m n (setL l (t, k) p c).1 (setL l (t, k) p c).2 → K (.bool true) w') :
    C.call Try.prog 19 #[.pointer (some ⟨b, 0, none⟩), .int .i64 t, .int .i64 k, .int .i64 p] w K := by
  have hbm : b ≠ m := fun e => by subst e; have h1 := hC.blk; have h2 := hC.map; unfold MapAt at h2; rw [h1] at h2; cases h2
  refine F19.sh ⟨_, eq_ptr_nil _ _ _ Try.underlying27, ?_⟩
  simp only [C.ite_true, C.ite_false, C.pick_true, C.pick_false, C.not_bool, C.field_ptr, C.nilCheck_ptr, C.add_mk, C.sub_mk, C.mul_mk, C.eql_mk, C.neq_mk, C.lss_mk, C.leq_mk, C.gtr_mk, C.geq_mk, C.conv_mk, C.len_mk, C.ext_0, C.ext_1, C.ext3_0, C.ext3_1, C.ext3_2, C.guarded_yes, C.guarded_tf, C.guarded_ft, C.guarded_undef, Bool.not_true, Bool.not_false, Nat.zero_add, eq_self, decide_true, decide_false]
  refine C.load1_of (v := .map (some m)) hC.blk rfl ⟨_, eq_map_nil _ _ m, ?_⟩
  simp only [C.ite_true, C.ite_false, C.pick_true, C.pick_false, C.not_bool, C.field_ptr, C.nilCheck_ptr, C.add_mk, C.sub_mk, C.mul_mk, C.eql_mk, C.neq_mk, C.lss_mk, C.leq_mk, C.gtr_mk, C.geq_mk, C.conv_mk, C.len_mk, C.ext_0, C.ext_1, C.ext3_0, C.ext3_1, C.ext3_2, C.guarded_yes, C.guarded_tf, C.guarded_ft, C.guarded_undef, Bool.not_true, Bool.not_false, Nat.zero_add, eq_self, decide_true, decide_false]
  by_cases c1 : t < 0
  · simp only [C.ite_true, C.ite_false, C.pick_true, C.pick_false, C.not_bool, C.field_ptr, C.nilCheck_ptr, C.add_mk, C.sub_mk, C.mul_mk, C.eql_mk, C.neq_mk, C.lss_mk, C.leq_mk, C.gtr_mk, C.geq_mk, C.conv_mk, C.len_mk, C.ext_0, C.ext_1, C.ext3_0, C.ext3_1, C.ext3_2, C.guarded_yes, C.guarded_tf, C.guarded_ft, C.guarded_undef, Bool.not_true, Bool.not_false, Nat.zero_add, eq_self, decide_true, decide_false, c1]
    exact h0 (by omega) w (Fr.refl _ _)
  simp only [C.ite_true, C.ite_false, C.pick_true, C.pick_false, C.not_bool, C.field_ptr, C.nilCheck_ptr, C.add_mk, C.sub_mk, C.mul_mk, C.eql_mk, C.neq_mk, C.lss_mk, C.leq_mk, C.gtr_mk, C.geq_mk, C.conv_mk, C.len_mk, C.ext_0, C.ext_1, C.ext3_0, C.ext3_1, C.ext3_2, C.guarded_yes, C.guarded_tf, C.guarded_ft, C.guarded_undef, Bool.not_true, Bool.not_false, Nat.zero_add, eq_self, decide_true, decide_false, c1]
  refine C.load1_of (v := .int .i64 n) hC.blk rfl ?_
  by_cases c2 : t ≥ n
  · simp only [C.ite_true, C.ite_false, C.pick_true, C.pick_false, C.not_bool, C.field_ptr, C.nilCheck_ptr, C.add_mk, C.sub_mk, C.mul_mk, C.eql_mk, C.neq_mk, C.lss_mk, C.leq_mk, C.gtr_mk, C.geq_mk, C.conv_mk, C.len_mk, C.ext_0, C.ext_1, C.ext3_0, C.ext3_1, C.ext3_2, C.guarded_yes, C.guarded_tf, C.guarded_ft, C.guarded_undef, Bool.not_true, Bool.not_false, Nat.zero_add, eq_self, decide_true, decide_false, c2]
    exact h0 (by omega) w (Fr.refl _ _)
  simp only [C.ite_true, C.ite_false, C.pick_true, C.pick_false, C.not_bool, C.field_ptr, C.nilCheck_ptr, C.add_mk, C.sub_mk, C.mul_mk, C.eql_mk, C.neq_mk, C.lss_mk, C.leq_mk, C.gtr_mk, C.geq_mk, C.conv_mk, C.len_mk, C.ext_0, C.ext_1, C.ext3_0, C.ext3_1, C.ext3_2, C.guarded_yes, C.guarded_tf, C.guarded_ft, C.guarded_undef, Bool.not_true, Bool.not_false, Nat.zero_add, eq_self, decide_true, decide_false, c2]
  refine Size_c ?_
  by_cases c3 : csz k = 0
  · simp only [C.ite_true, C.ite_false, C.pick_true, C.pick_false, C.not_bool, C.field_ptr, C.nilCheck_ptr, C.add_mk, C.sub_mk, C.mul_mk, C.eql_mk, C.neq_mk, C.lss_mk, C.leq_mk, C.gtr_mk, C.geq_mk, C.conv_mk, C.len_mk, C.ext_0, C.ext_1, C.ext3_0, C.ext3_1, C.ext3_2, C.guarded_yes, C.guarded_tf, C.guarded_ft, C.guarded_undef, Bool.not_true, Bool.not_false, Nat.zero_add, eq_self, decide_true, decide_false, c3]
    exact h0 (fun e => e.2.2.1 c3) w (Fr.refl _ _)
  simp only [C.ite_true, C.ite_false, C.pick_true, C.pick_false, C.not_bool, C.field_ptr, C.nilCheck_ptr, C.add_mk, C.sub_mk, C.mul_mk, C.eql_mk, C.neq_mk, C.lss_mk, C.leq_mk, C.gtr_mk, C.geq_mk, C.conv_mk, C.len_mk, C.ext_0, C.ext_1, C.ext3_0, C.ext3_1, C.ext3_2, C.guarded_yes, C.guarded_tf, C.guarded_ft, C.guarded_undef, Bool.not_true, Bool.not_false, Nat.zero_add, eq_self, decide_true, decide_false, c3]
  by_cases c4 : p < 0
  · simp only [C.ite_true, C.ite_false, C.pick_true, C.pick_false, C.not_bool, C.field_ptr, C.nilCheck_ptr, C.add_mk, C.sub_mk, C.mul_mk, C.eql_mk, C.neq_mk, C.lss_mk, C.leq_mk, C.gtr_mk, C.geq_mk, C.conv_mk, C.len_mk, C.ext_0, C.ext_1, C.ext3_0, C.ext3_1, C.ext3_2, C.guarded_yes, C.guarded_tf, C.guarded_ft, C.guarded_undef, Bool.not_true, Bool.not_false, Nat.zero_add, eq_self, decide_true, decide_false, c4]
    exact h0 (by omega) w (Fr.refl _ _)
  simp only [C.ite_true, C.ite_false, C.pick_true, C.pick_false, C.not_bool, C.field_ptr, C.nilCheck_ptr, C.add_mk, C.sub_mk, C.mul_mk, C.eql_mk, C.neq_mk, C.lss_mk, C.leq_mk, C.gtr_mk, C.geq_mk, C.conv_mk, C.len_mk, C.ext_0, C.ext_1, C.ext3_0, C.ext3_1, C.ext3_2, C.guarded_yes, C.guarded_tf, C.guarded_ft, C.guarded_undef, Bool.not_true, Bool.not_false, Nat.zero_add, eq_self, decide_true, decide_false, c4]
  by_cases c5 : p ≥ 64
  · simp only [C.ite_true, C.ite_false, C.pick_true, C.pick_false, C.not_bool, C.field_ptr, C.nilCheck_ptr, C.add_mk, C.sub_mk, C.mul_mk, C.eql_mk, C.neq_mk, C.lss_mk, C.leq_mk, C.gtr_mk, C.geq_mk, C.conv_mk, C.len_mk, C.ext_0, C.ext_1, C.ext3_0, C.ext3_1, C.ext3_2, C.guarded_yes, C.guarded_tf, C.guarded_ft, C.guarded_undef, Bool.not_true, Bool.not_false, Nat.zero_add, eq_self, decide_true, decide_false, c5]
    exact h0 (by omega) w (Fr.refl _ _)
  simp only [C.ite_true, C.ite_false, C.pick_true, C.pick_false, C.not_bool, C.field_ptr, C.nilCheck_ptr, C.add_mk, C.sub_mk, C.mul_mk, C.eql_mk, C.neq_mk, C.lss_mk, C.leq_mk, C.gtr_mk, C.geq_mk, C.conv_mk, C.len_mk, C.ext_0, C.ext_1, C.ext3_0, C.ext3_1, C.ext3_2, C.guarded_yes, C.guarded_tf, C.guarded_ft, C.guarded_undef, Bool.not_true, Bool.not_false, Nat.zero_add, eq_self, decide_true, decide_false, c5]
  refine F19.k3.to (Owner_c hC hg fun w1 hf1 => ?_)
  by_cases c6 : (ownerOf l p).1 ≥ 0
  · simp only [C.ite_true, C.ite_false, C.pick_true, C.pick_false, C.not_bool, C.field_ptr, C.nilCheck_ptr, C.add_mk, C.sub_mk, C.mul_mk, C.eql_mk, C.neq_mk, C.lss_mk, C.leq_mk, C.gtr_mk, C.geq_mk, C.conv_mk, C.len_mk, C.ext_0, C.ext_1, C.ext3_0, C.ext3_1, C.ext3_2, C.guarded_yes, C.guarded_tf, C.guarded_ft, C.guarded_undef, Bool.not_true, Bool.not_false, Nat.zero_add, eq_self, decide_true, decide_false, c6]
    exact h0 (by omega) w1 hf1
  simp only [C.ite_true, C.ite_false, C.pick_true, C.pick_false, C.not_bool, C.field_ptr, C.nilCheck_ptr, C.add_mk, C.sub_mk, C.mul_mk, C.eql_mk, C.neq_mk, C.lss_mk, C.leq_mk, C.gtr_mk, C.geq_mk, C.conv_mk, C.len_mk, C.ext_0, C.ext_1, C.ext3_0, C.ext3_1, C.ext3_2, C.guarded_yes, C.guarded_tf, C.guarded_ft, C.guarded_undef, Bool.not_true, Bool.not_false, Nat.zero_add, eq_self, decide_true, decide_false, c6]
  have hC1 := hC.keep hf1 (by simp) (by simp)
  refine F19.k6.to ?_
  simp only [C.ite_true, C.ite_false, C.pick_true, C.pick_false, C.not_bool, C.field_ptr, C.nilCheck_ptr, C.add_mk, C.sub_mk, C.mul_mk, C.eql_mk, C.neq_mk, C.lss_mk, C.leq_mk, C.gtr_mk, C.geq_mk, C.conv_mk, C.len_mk, C.ext_0, C.ext_1, C.ext3_0, C.ext3_1, C.ext3_2, C.guarded_yes, C.guarded_tf, C.guarded_ft, C.guarded_undef, Bool.not_true, Bool.not_false, Nat.zero_add, eq_self, decide_true, decide_false]
  refine C.load1_of (v := .map (some m)) hC1.blk rfl (C.run_of (bSeat t k) ?_)
  have hlt := lt_of_at hC.map
  have fin : ∀ w' l' c', setL l (t, k) p c = (l', c') → Fr [m] w1 w' → MapAt seatV w' m l' c' → (∀ x ∈ l', ∃ q : Int, x.2.1 = .int .i64 q) → K (.bool true) w' := fun w' l' c' e hf hm hi => by
    refine h1 ⟨by omega, by omega, c3, by omega, by omega, by omega⟩ w' ((hf1.mono (by simp)).trans hf) ?_
    rw [e]
    exact ⟨hf.at_ hC1.blk (by simpa using hbm), hm, hi⟩
  cases e : fnd (t, k) l 0 with
  | none =>
    refine C.mapNew_of keySeat Try.underlying44 hC1.map (t, k) (.int .i64 p) e fun w' hf hs hm => fin w' _ _ (by simp [setL, e]) hf hm fun x hx => ?_
    rcases List.mem_append.1 hx with hx | hx
    · exact hC.int x hx
    · rw [List.mem_singleton.1 hx]; exact ⟨p, rfl⟩
  | some jv =>
    obtain ⟨j, v⟩ := jv
    have hex : ∃ x ∈ l, x.1 = (t, k) := by
      apply Classical.byContradiction
      intro hc
      rw [fnd_none fun x hx he => hc ⟨x, hx, he⟩] at e
      cases e
    obtain ⟨j', x, g1, g2, _, g4⟩ := fnd_at (i := 0) hex
    rw [Nat.zero_add] at g4
    have ej : j = j' := by rw [e] at g4; simp only [Option.some.injEq, Prod.mk.injEq] at g4; exact g4.1
    subst ej
    refine C.mapSet_of keySeat Try.underlying44 hC1.map (t, k) (.int .i64 p) g1 g2 g4 fun w' hf hs hm => fin w' _ _ (by simp [setL, e, g1]) hf hm fun y hy => ?_
    rcases List.mem_or_eq_of_mem_set hy with hy | hy
    · exact hC.int y hy
    · rw [hy]; exact ⟨p, rfl⟩
end
end Go.Proofs.YtfdpmgddlaamcaaV
