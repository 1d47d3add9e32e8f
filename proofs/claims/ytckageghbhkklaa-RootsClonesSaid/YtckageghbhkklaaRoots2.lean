/- The functions of package roots that change it, and lists of values held against each other: what each call comes to. -/
import Derived.Test.YtckageghbhkklaaRoots1
namespace Go.Proofs.YtckageghbhkklaaV
open Go Go.Proofs Go.RowKit
set_option linter.unusedVariables false
set_option linter.unusedSimpArgs false
section
variable {K : VK} {w : World}
theorem Push_nil (k n : Int) (h : ∀ w', Fr [] w w' → K (.bool false) w') : C.call Try.prog 39 #[.pointer none, V k n] w K := by
  refine F39.sh (C.new_of fun b w1 hn => ⟨_, eq_nil_nil _ _ Try.underlying65, ?_⟩)
  try simp only [C.ite_true, C.ite_false, C.pick_true, C.pick_false, C.not_bool, C.field_ptr, C.nilCheck_ptr, C.add_mk, C.sub_mk, C.mul_mk, C.eql_mk, C.neq_mk, C.lss_mk, C.leq_mk, C.gtr_mk, C.geq_mk, C.conv_mk, C.len_mk, C.ext_0, C.ext_1, C.ext3_0, C.ext3_1, C.ext3_2, C.guarded_yes, C.guarded_tf, C.guarded_ft, C.guarded_undef, Bool.not_true, Bool.not_false, Nat.zero_add, eq_self, decide_true, decide_false]
  exact h w1 hn.fr
theorem Push_no {r : Nat} {s : Value} {l : List (Int × Int)} (k n : Int) (hr : Rts w r s l) (hc : chk k n ≠ 0 ∨ 16 ≤ l.length) (h : ∀ w', Fr [] w w' → K (.bool false) w') : C.call Try.prog 39 #[.pointer (some ⟨r, 0, none⟩), V k n] w K := by
  refine F39.sh (C.new_of fun b w1 hn => ⟨_, eq_ptr_nil _ _ _ Try.underlying65, ?_⟩)
  try simp only [C.ite_true, C.ite_false, C.pick_true, C.pick_false, C.not_bool, C.field_ptr, C.nilCheck_ptr, C.add_mk, C.sub_mk, C.mul_mk, C.eql_mk, C.neq_mk, C.lss_mk, C.leq_mk, C.gtr_mk, C.geq_mk, C.conv_mk, C.len_mk, C.ext_0, C.ext_1, C.ext3_0, C.ext3_1, C.ext3_2, C.guarded_yes, C.guarded_tf, C.guarded_ft, C.guarded_undef, Bool.not_true, Bool.not_false, Nat.zero_add, eq_self, decide_true, decide_false]
  refine C.loadA_all hn.at_ rfl (Check_c k n fun w2 hf2 => ?_)
  have hf := hn.fr.trans hf2
  by_cases c0 : chk k n = 0
  · simp only [C.ite_true, C.ite_false, C.pick_true, C.pick_false, C.not_bool, C.field_ptr, C.nilCheck_ptr, C.add_mk, C.sub_mk, C.mul_mk, C.eql_mk, C.neq_mk, C.lss_mk, C.leq_mk, C.gtr_mk, C.geq_mk, C.conv_mk, C.len_mk, C.ext_0, C.ext_1, C.ext3_0, C.ext3_1, C.ext3_2, C.guarded_yes, C.guarded_tf, C.guarded_ft, C.guarded_undef, Bool.not_true, Bool.not_false, Nat.zero_add, eq_self, decide_true, decide_false, c0, ne_eq, not_true_eq_false]
    refine C.load1_of (hf.at_ hr.1 (by simp)) rfl (C.len_rd hr.2.1.rd ?_)
    simp only [C.ite_true, C.ite_false, C.pick_true, C.pick_false, C.not_bool, C.field_ptr, C.nilCheck_ptr, C.add_mk, C.sub_mk, C.mul_mk, C.eql_mk, C.neq_mk, C.lss_mk, C.leq_mk, C.gtr_mk, C.geq_mk, C.conv_mk, C.len_mk, C.ext_0, C.ext_1, C.ext3_0, C.ext3_1, C.ext3_2, C.guarded_yes, C.guarded_tf, C.guarded_ft, C.guarded_undef, Bool.not_true, Bool.not_false, Nat.zero_add, eq_self, decide_true, decide_false, valC_len]
    rw [decide_eq_true (by omega : (l.length : Int) ≥ 16)]
    simp only [C.ite_true, C.ite_false, C.pick_true, C.pick_false, C.not_bool, C.field_ptr, C.nilCheck_ptr, C.add_mk, C.sub_mk, C.mul_mk, C.eql_mk, C.neq_mk, C.lss_mk, C.leq_mk, C.gtr_mk, C.geq_mk, C.conv_mk, C.len_mk, C.ext_0, C.ext_1, C.ext3_0, C.ext3_1, C.ext3_2, C.guarded_yes, C.guarded_tf, C.guarded_ft, C.guarded_undef, Bool.not_true, Bool.not_false, Nat.zero_add, eq_self, decide_true, decide_false]
    exact h w2 hf
  · simp only [C.ite_true, C.ite_false, C.pick_true, C.pick_false, C.not_bool, C.field_ptr, C.nilCheck_ptr, C.add_mk, C.sub_mk, C.mul_mk, C.eql_mk, C.neq_mk, C.lss_mk, C.leq_mk, C.gtr_mk, C.geq_mk, C.conv_mk, C.len_mk, C.ext_0, C.ext_1, C.ext3_0, C.ext3_1, C.ext3_2, C.guarded_yes, C.guarded_tf, C.guarded_ft, C.guarded_undef, Bool.not_true, Bool.not_false, Nat.zero_add, eq_self, decide_true, decide_false, c0, ne_eq, not_false_eq_true]
    exact h w2 hf
theorem Push_tail {r b g : Nat} {s : Value} {l : List (Int × Int)} {k n : Int} {w0 : World} (hf0 : Fr [] w0 w) (hr0 : Rts w0 r s l) (hb : w.heap[b]? = some (vB k n)) (hb0 : w0.heap.size ≤ b) (hl : l.length < 16) (hg : w.heap[g]? = some (.cells #[.int .i64 k, .int .i64 n] 40 (0, 0)))
    (h : ∀ s' w', Fr (r :: blkS s) w0 w' → Rts w' r s' (l ++ [(k, n)]) → (∀ g, s'.ownBlock = some g → g ∈ blkS s ∨ w0.heap.size ≤ g) → K (.bool true) w') :
    C.run Try.prog (Builtin.append_ #[64, 64] 64 #[s, .slice (some ⟨g, 0, none⟩) 1 1]) w fun x27_7 w7 => (w7.heap[b]? = some (vB k n) ∧
      (C.store 1 (.pointer (some ⟨r, 0, none⟩)) x27_7 w7 fun w10 => (w10.heap[b]? = some (vB k n) ∧ F39.k4 K w10)) ∧ True) := by
  have hr : Rts w r s l := ⟨hf0.at_ hr0.1 (by simp), hr0.2.1.keep hf0 (by simp), hr0.2.2⟩
  have hbs : b ∉ blkS s := by
    intro hb'
    rw [mem_blkS] at hb'
    have := hr0.2.1.lt hb'
    omega
  have hbr : b ≠ r := by have := lt_of_at hr0.1; omega
  refine C.append_of (xs := valC l) (ys := valC [(k, n)]) (e := 40) (sz := 2) (bytes := 16) (z := V 0 0) Try.underlying64 (by kernel_rfl) rfl (by decide) hr.2.1 (RdS.of_block hg rfl (by simp) (by simp) (by simp [valC]) (by simp [valC])) valC_one
    (by rw [valC_len, valC_len]; simp; omega) (by rw [valC_len, valC_len]; simp; omega) fun s' w1 ho hf hbk _ => ?_
  refine ⟨hf.at_ hb hbs, ?_⟩
  have hr1 := hf.at_ hr.1 hr.2.2
  refine ⟨C.store1_of hr1 ho.one.2 ho.one.1 (by simp) fun w2 hu => ⟨hu.fr.at_ (hf.at_ hb hbs) (by simp; omega), F39.k4.to ?_⟩, trivial⟩
  have hnr : r ∉ blkS s' := by
    intro hb'
    rw [mem_blkS] at hb'
    rcases hbk with e | ⟨g', e, hle⟩
    · rw [e] at hb'
      exact hr.2.2 (mem_blkS.2 hb')
    · rw [hb'] at e
      simp only [Option.some.injEq] at e
      have := lt_of_at hr.1
      omega
  refine h s' w2 ?_ ⟨hu.at_, ?_, hnr⟩ ?_
  · exact (hf0.w.trans (hf.mono fun x hx => List.mem_cons_of_mem _ hx)).trans (hu.fr.mono (by simp))
  · rw [valC_app]
    refine ho.keep hu.fr fun g hg hx => ?_
    simp only [List.mem_singleton] at hx
    subst hx
    exact hnr (mem_blkS.2 hg)
  · intro g hg
    rcases hbk with e | ⟨g', e, hle⟩
    · rw [e] at hg
      exact .inl (mem_blkS.2 hg)
    · rw [hg] at e
      simp only [Option.some.injEq] at e
      have := hf0.size
      exact .inr (by omega)
theorem Push_yes {r : Nat} {s : Value} {l : List (Int × Int)} (k n : Int) (hr : Rts w r s l) (hc : chk k n = 0) (hl : l.length < 16)
    (h : ∀ s' w', Fr (r :: blkS s) w w' → Rts w' r s' (l ++ [(k, n)]) → (∀ g, s'.ownBlock = some g → g ∈ blkS s ∨ w.heap.size ≤ g) → K (.bool true) w') : C.call Try.prog 39 #[.pointer (some ⟨r, 0, none⟩), V k n] w K := by
  refine F39.sh (C.new_of fun b w1 hn => ⟨_, eq_ptr_nil _ _ _ Try.underlying65, ?_⟩)
  try simp only [C.ite_true, C.ite_false, C.pick_true, C.pick_false, C.not_bool, C.field_ptr, C.nilCheck_ptr, C.add_mk, C.sub_mk, C.mul_mk, C.eql_mk, C.neq_mk, C.lss_mk, C.leq_mk, C.gtr_mk, C.geq_mk, C.conv_mk, C.len_mk, C.ext_0, C.ext_1, C.ext3_0, C.ext3_1, C.ext3_2, C.guarded_yes, C.guarded_tf, C.guarded_ft, C.guarded_undef, Bool.not_true, Bool.not_false, Nat.zero_add, eq_self, decide_true, decide_false]
  refine C.loadA_all hn.at_ rfl (Check_c k n fun w2 hf2 => ?_)
  have hf := hn.fr.trans hf2
  have hb2 : w2.heap[b]? = some (vB k n) := hf2.at_ hn.at_ (by simp)
  have hb0 : w.heap.size ≤ b := by have := hn.is; omega
  simp only [C.ite_true, C.ite_false, C.pick_true, C.pick_false, C.not_bool, C.field_ptr, C.nilCheck_ptr, C.add_mk, C.sub_mk, C.mul_mk, C.eql_mk, C.neq_mk, C.lss_mk, C.leq_mk, C.gtr_mk, C.geq_mk, C.conv_mk, C.len_mk, C.ext_0, C.ext_1, C.ext3_0, C.ext3_1, C.ext3_2, C.guarded_yes, C.guarded_tf, C.guarded_ft, C.guarded_undef, Bool.not_true, Bool.not_false, Nat.zero_add, eq_self, decide_true, decide_false, hc, ne_eq, not_true_eq_false]
  refine C.load1_of (hf.at_ hr.1 (by simp)) rfl (C.len_rd hr.2.1.rd ?_)
  simp only [C.ite_true, C.ite_false, C.pick_true, C.pick_false, C.not_bool, C.field_ptr, C.nilCheck_ptr, C.add_mk, C.sub_mk, C.mul_mk, C.eql_mk, C.neq_mk, C.lss_mk, C.leq_mk, C.gtr_mk, C.geq_mk, C.conv_mk, C.len_mk, C.ext_0, C.ext_1, C.ext3_0, C.ext3_1, C.ext3_2, C.guarded_yes, C.guarded_tf, C.guarded_ft, C.guarded_undef, Bool.not_true, Bool.not_false, Nat.zero_add, eq_self, decide_true, decide_false, valC_len]
  rw [decide_eq_false (by omega : ¬ (l.length : Int) ≥ 16)]
  try simp only [C.ite_true, C.ite_false, C.pick_true, C.pick_false, C.not_bool, C.field_ptr, C.nilCheck_ptr, C.add_mk, C.sub_mk, C.mul_mk, C.eql_mk, C.neq_mk, C.lss_mk, C.leq_mk, C.gtr_mk, C.geq_mk, C.conv_mk, C.len_mk, C.ext_0, C.ext_1, C.ext3_0, C.ext3_1, C.ext3_2, C.guarded_yes, C.guarded_tf, C.guarded_ft, C.guarded_undef, Bool.not_true, Bool.not_false, Nat.zero_add, eq_self, decide_true, decide_false]
  refine F39.k3.to (C.draw_of (fun w' => w'.heap[b]? = some (vB k n)) fun w3 hf3 he3 => ⟨by rw [he3]; exact hb2, ?_⟩)
  try simp only [C.ite_true, C.ite_false, C.pick_true, C.pick_false, C.not_bool, C.field_ptr, C.nilCheck_ptr, C.add_mk, C.sub_mk, C.mul_mk, C.eql_mk, C.neq_mk, C.lss_mk, C.leq_mk, C.gtr_mk, C.geq_mk, C.conv_mk, C.len_mk, C.ext_0, C.ext_1, C.ext3_0, C.ext3_1, C.ext3_2, C.guarded_yes, C.guarded_tf, C.guarded_ft, C.guarded_undef, Bool.not_true, Bool.not_false, Nat.zero_add, eq_self, decide_true, decide_false]
  refine C.loadAS_of (vs := [.int .i64 k, .int .i64 n]) (fun w' hw => ⟨_, _, _, hw, by simp, rfl⟩) ?_
  have hf3' := hf.trans hf3
  have hb3 := hf3.at_ hb2 (by simp)
  have hn4 := New.mk' w3 (.cells #[.int .i64 k, .int .i64 n] 40)
  refine ⟨C.load1_of (v := s) (hf3'.at_ hr.1 (by simp)) rfl ⟨hb3, C.run_of (bs40 k n) ⟨hn4.fr.at_ hb3 (by simp), Push_tail (hf3'.trans hn4.fr) hr (hn4.fr.at_ hb3 (by simp)) hb0 hl hn4.at_ h, trivial⟩, trivial⟩, ?_⟩
  refine ⟨C.run_of (bs40 k n) ⟨hn4.fr.at_ hb3 (by simp), C.load1_of (v := s) ((hf3'.trans hn4.fr).at_ hr.1 (by simp)) rfl ⟨hn4.fr.at_ hb3 (by simp), Push_tail (hf3'.trans hn4.fr) hr (hn4.fr.at_ hb3 (by simp)) hb0 hl hn4.at_ h, trivial⟩, trivial⟩, trivial⟩
theorem Pop_nil (h : ∀ w', Fr [] w w' → K (.tuple #[V 0 0, .bool false]) w') : C.call Try.prog 46 #[.pointer none] w K := by
  refine F46.sh (C.new_of fun b w1 hn => Len_nil ?_)
  try simp only [C.ite_true, C.ite_false, C.pick_true, C.pick_false, C.not_bool, C.field_ptr, C.nilCheck_ptr, C.add_mk, C.sub_mk, C.mul_mk, C.eql_mk, C.neq_mk, C.lss_mk, C.leq_mk, C.gtr_mk, C.geq_mk, C.conv_mk, C.len_mk, C.ext_0, C.ext_1, C.ext3_0, C.ext3_1, C.ext3_2, C.guarded_yes, C.guarded_tf, C.guarded_ft, C.guarded_undef, Bool.not_true, Bool.not_false, Nat.zero_add, eq_self, decide_true, decide_false]
  refine Get_nil _ fun w2 hf2 => ?_
  try simp only [C.ite_true, C.ite_false, C.pick_true, C.pick_false, C.not_bool, C.field_ptr, C.nilCheck_ptr, C.add_mk, C.sub_mk, C.mul_mk, C.eql_mk, C.neq_mk, C.lss_mk, C.leq_mk, C.gtr_mk, C.geq_mk, C.conv_mk, C.len_mk, C.ext_0, C.ext_1, C.ext3_0, C.ext3_1, C.ext3_2, C.guarded_yes, C.guarded_tf, C.guarded_ft, C.guarded_undef, Bool.not_true, Bool.not_false, Nat.zero_add, eq_self, decide_true, decide_false]
  refine C.new_of fun c w3 hn3 => C.store_all hn3.at_ rfl v2_cells rfl fun w4 hu => ?_
  have lb : w.heap.size ≤ b := by have := hn.is; omega
  have lc : w.heap.size ≤ c := by have := hn3.is; have := hn.fr.size; have := hf2.size; omega
  have hbc : b ≠ c := hn3.ne (lt_of_at (hf2.at_ hn.at_ (by simp)))
  have hb4 := hu.fr.at_ (hn3.fr.at_ (hf2.at_ hn.at_ (by simp)) (by simp)) (by simpa using hbc)
  try simp only [C.ite_true, C.ite_false, C.pick_true, C.pick_false, C.not_bool, C.field_ptr, C.nilCheck_ptr, C.add_mk, C.sub_mk, C.mul_mk, C.eql_mk, C.neq_mk, C.lss_mk, C.leq_mk, C.gtr_mk, C.geq_mk, C.conv_mk, C.len_mk, C.ext_0, C.ext_1, C.ext3_0, C.ext3_1, C.ext3_2, C.guarded_yes, C.guarded_tf, C.guarded_ft, C.guarded_undef, Bool.not_true, Bool.not_false, Nat.zero_add, eq_self, decide_true, decide_false]
  refine F46.k4.to (C.loadA_all hu.at_ rfl (C.store_all hb4 rfl v2_cells rfl fun w5 hu5 => C.loadA_all hu5.at_ rfl (h w5 ?_)))
  exact ((((hn.fr.trans hf2).trans hn3.fr).then hu.fr (by simp; omega))).then hu5.fr (by simp; omega)
theorem Pop_no {r : Nat} {s : Value} (hr : Rts w r s []) (h : ∀ w', Fr [] w w' → K (.tuple #[V 0 0, .bool false]) w') : C.call Try.prog 46 #[.pointer (some ⟨r, 0, none⟩)] w K := by
  refine F46.sh (C.new_of fun b w1 hn => ?_)
  have hr1 : Rts w1 r s [] := ⟨hn.fr.at_ hr.1 (by simp), hr.2.1.keep hn.fr (by simp), hr.2.2⟩
  refine Len_c hr1 ?_
  try simp only [C.ite_true, C.ite_false, C.pick_true, C.pick_false, C.not_bool, C.field_ptr, C.nilCheck_ptr, C.add_mk, C.sub_mk, C.mul_mk, C.eql_mk, C.neq_mk, C.lss_mk, C.leq_mk, C.gtr_mk, C.geq_mk, C.conv_mk, C.len_mk, C.ext_0, C.ext_1, C.ext3_0, C.ext3_1, C.ext3_2, C.guarded_yes, C.guarded_tf, C.guarded_ft, C.guarded_undef, Bool.not_true, Bool.not_false, Nat.zero_add, eq_self, decide_true, decide_false]
  refine Get_c _ hr1 fun w2 hf2 => ?_
  rw [dif_neg (by simp)]
  try simp only [C.ite_true, C.ite_false, C.pick_true, C.pick_false, C.not_bool, C.field_ptr, C.nilCheck_ptr, C.add_mk, C.sub_mk, C.mul_mk, C.eql_mk, C.neq_mk, C.lss_mk, C.leq_mk, C.gtr_mk, C.geq_mk, C.conv_mk, C.len_mk, C.ext_0, C.ext_1, C.ext3_0, C.ext3_1, C.ext3_2, C.guarded_yes, C.guarded_tf, C.guarded_ft, C.guarded_undef, Bool.not_true, Bool.not_false, Nat.zero_add, eq_self, decide_true, decide_false]
  refine C.new_of fun c w3 hn3 => C.store_all hn3.at_ rfl v2_cells rfl fun w4 hu => ?_
  have lb : w.heap.size ≤ b := by have := hn.is; omega
  have lc : w.heap.size ≤ c := by have := hn3.is; have := hn.fr.size; have := hf2.size; omega
  have hbc : b ≠ c := hn3.ne (lt_of_at (hf2.at_ hn.at_ (by simp)))
  have hb4 := hu.fr.at_ (hn3.fr.at_ (hf2.at_ hn.at_ (by simp)) (by simp)) (by simpa using hbc)
  try simp only [C.ite_true, C.ite_false, C.pick_true, C.pick_false, C.not_bool, C.field_ptr, C.nilCheck_ptr, C.add_mk, C.sub_mk, C.mul_mk, C.eql_mk, C.neq_mk, C.lss_mk, C.leq_mk, C.gtr_mk, C.geq_mk, C.conv_mk, C.len_mk, C.ext_0, C.ext_1, C.ext3_0, C.ext3_1, C.ext3_2, C.guarded_yes, C.guarded_tf, C.guarded_ft, C.guarded_undef, Bool.not_true, Bool.not_false, Nat.zero_add, eq_self, decide_true, decide_false]
  refine F46.k4.to (C.loadA_all hu.at_ rfl (C.store_all hb4 rfl v2_cells rfl fun w5 hu5 => C.loadA_all hu5.at_ rfl (h w5 ?_)))
  exact ((((hn.fr.trans hf2).trans hn3.fr).then hu.fr (by simp; omega))).then hu5.fr (by simp; omega)
theorem OwnS.take {A : Option Addr} {n c sz : Nat} {e : TypeId} {xs : List (List Value)} (h : OwnS w (.slice A n c) e sz xs) (m : Nat) (hm : m ≤ n) (hA : A = none → m = 0) : OwnS w (.slice A m c) e sz (xs.take m) := by
  obtain ⟨⟨h1, h2⟩, h3⟩ := h
  have h3' : ∀ x ∈ xs.take m, x.length = sz ∧ ∀ u ∈ x, u.oneCell' = true := fun x hx => h3 x (List.mem_of_mem_take hx)
  rcases h2 with ⟨he, hn⟩ | ⟨g, cap, cur, he, hb, hh, r1, r2, r3, r4⟩
  · simp only [Value.slice.injEq] at he
    obtain ⟨rfl, rfl, rfl⟩ := he
    have : m = 0 := by omega
    subst this
    simp only [List.take_zero]
    exact OwnS.nil w e sz
  · simp only [Value.slice.injEq] at he
    obtain ⟨rfl, rfl, rfl⟩ := he
    have hl : (xs.take m).length = m := by rw [List.length_take]; omega
    have := OwnS.of_block (w := w) (g := g) (n := m) (c := c) (sz := sz) (e := e) (cs := cur) (xs := xs.take m) hh hl.symm (by omega) (by unfold maxLen at r2; omega) r3 h3' ?_
    · exact this
    · have e1 : cur.toList.take (m * sz) = (cur.toList.take (xs.length * sz)).take (m * sz) := by rw [List.take_take, Nat.min_eq_left (Nat.mul_le_mul_right _ hm)]
      rw [e1, r4]
      have hlen : ∀ x ∈ xs, x.length = sz := fun x hx => (h3 x hx).1
      have : xs.flatten = (xs.take m).flatten ++ (xs.drop m).flatten := by rw [← List.flatten_append, List.take_append_drop]
      rw [this, List.take_left' (by rw [flatten_len _ fun x hx => hlen x (List.mem_of_mem_take hx), hl])]
theorem Pop_yes {r : Nat} {s : Value} {l : List (Int × Int)} {k n : Int} (hr : Rts w r s (l ++ [(k, n)])) (hl : l.length ≤ 1000000)
    (h : ∀ s' w', Fr [r] w w' → Rts w' r s' l → s'.ownBlock = s.ownBlock → K (.tuple #[V k n, .bool true]) w') : C.call Try.prog 46 #[.pointer (some ⟨r, 0, none⟩)] w K := by
  refine F46.sh (C.new_of fun b w1 hn => ?_)
  have hr1 : Rts w1 r s (l ++ [(k, n)]) := ⟨hn.fr.at_ hr.1 (by simp), hr.2.1.keep hn.fr (by simp), hr.2.2⟩
  refine Len_c hr1 ?_
  try simp only [C.ite_true, C.ite_false, C.pick_true, C.pick_false, C.not_bool, C.field_ptr, C.nilCheck_ptr, C.add_mk, C.sub_mk, C.mul_mk, C.eql_mk, C.neq_mk, C.lss_mk, C.leq_mk, C.gtr_mk, C.geq_mk, C.conv_mk, C.len_mk, C.ext_0, C.ext_1, C.ext3_0, C.ext3_1, C.ext3_2, C.guarded_yes, C.guarded_tf, C.guarded_ft, C.guarded_undef, Bool.not_true, Bool.not_false, Nat.zero_add, eq_self, decide_true, decide_false]
  rw [wrap64_id (by simp; omega)]
  refine Get_c _ hr1 fun w2 hf2 => ?_
  have e0 : (((l ++ [(k, n)]).length : Int) - 1).toNat = l.length := by simp
  rw [dif_pos (by rw [e0]; simp)]
  simp only [e0, List.getElem_concat_length]
  try simp only [C.ite_true, C.ite_false, C.pick_true, C.pick_false, C.not_bool, C.field_ptr, C.nilCheck_ptr, C.add_mk, C.sub_mk, C.mul_mk, C.eql_mk, C.neq_mk, C.lss_mk, C.leq_mk, C.gtr_mk, C.geq_mk, C.conv_mk, C.len_mk, C.ext_0, C.ext_1, C.ext3_0, C.ext3_1, C.ext3_2, C.guarded_yes, C.guarded_tf, C.guarded_ft, C.guarded_undef, Bool.not_true, Bool.not_false, Nat.zero_add, eq_self, decide_true, decide_false]
  refine C.new_of fun c w3 hn3 => C.store_all hn3.at_ rfl v2_cells rfl fun w4 hu => ?_
  have lb : w.heap.size ≤ b := by have := hn.is; omega
  have lc : w.heap.size ≤ c := by have := hn3.is; have := hn.fr.size; have := hf2.size; omega
  have hbc : b ≠ c := hn3.ne (lt_of_at (hf2.at_ hn.at_ (by simp)))
  have lr := lt_of_at hr.1
  have hb4 := hu.fr.at_ (hn3.fr.at_ (hf2.at_ hn.at_ (by simp)) (by simp)) (by simpa using hbc)
  have hf4 : Fr [] w w4 := ((hn.fr.trans hf2).trans hn3.fr).then hu.fr (by simp; omega)
  have hc4 := hu.at_
  try simp only [C.ite_true, C.ite_false, C.pick_true, C.pick_false, C.not_bool, C.field_ptr, C.nilCheck_ptr, C.add_mk, C.sub_mk, C.mul_mk, C.eql_mk, C.neq_mk, C.lss_mk, C.leq_mk, C.gtr_mk, C.geq_mk, C.conv_mk, C.len_mk, C.ext_0, C.ext_1, C.ext3_0, C.ext3_1, C.ext3_2, C.guarded_yes, C.guarded_tf, C.guarded_ft, C.guarded_undef, Bool.not_true, Bool.not_false, Nat.zero_add, eq_self, decide_true, decide_false]
  refine C.draw_of (fun w' => True) fun w5 hf5 he5 => ⟨trivial, ?_⟩
  have hf5' := hf4.trans hf5
  have hb5 := hf5.at_ hb4 (by simp)
  have hc5 := hf5.at_ hc4 (by simp)
  have hr5 := hf5'.at_ hr.1 (by simp)
  have ho5 := hr.2.1.keep hf5' (by simp)
  obtain ⟨A, cp, rfl⟩ := ho5.len
  rw [valC_len] at *
  have hcap : (l ++ [(k, n)]).length ≤ cp := by
    obtain ⟨A', c', he, h1, _⟩ := ho5.rd
    simp only [Value.slice.injEq] at he
    rw [valC_len] at h1
    omega
  have hA : A ≠ none := by
    rintro rfl
    obtain ⟨A', c', he, _, _, h3⟩ := ho5.rd
    simp only [Value.slice.injEq] at he
    obtain ⟨g', o', cs', e', fz', hA', _⟩ := h3 (by simp [valC])
    rw [hA'] at he
    exact absurd he.1 (by simp)
  have hrun : ∀ w' : World, (Instr.sliceAt 64 (.slice A (l ++ [(k, n)]).length cp) none (some (.int .i64 (l.length : Int))) none).run Try.prog w' = .ok (.slice A l.length cp) w' := fun w' => by
    have := sliceTo_run (P := Try.prog) (w := w') (t := 64) (e := 40) (sz := 2) A (l ++ [(k, n)]).length cp .i64 (l.length : Int) Try.underlying64 (by kernel_rfl) (by omega) (by simp at hcap; omega)
    rwa [Int.toNat_natCast] at this
  have e1 : ((l ++ [(k, n)]).length : Int) - 1 = (l.length : Int) := by simp
  have tail : (C.store 1 (.pointer (some ⟨r, 0, none⟩)) (.slice A l.length cp) w5 fun w29 => (True ∧ F46.k4 K (.pointer (some ⟨b, 0, none⟩)) (.pointer (some ⟨c, 0, none⟩)) (.bool true) w29)) ∧ True := by
    refine ⟨C.store1_of hr5 rfl rfl (by simp) fun w6 hu6 => ⟨trivial, ?_⟩, trivial⟩
    have hb6 := hu6.fr.at_ hb5 (by simp; omega)
    have hc6 := hu6.fr.at_ hc5 (by simp; omega)
    refine F46.k4.to (C.loadA_all hc6 rfl (C.store_all hb6 rfl v2_cells rfl fun w7 hu7 => C.loadA_all hu7.at_ rfl ?_))
    have ho5' := ho5.take l.length (by simp) (fun h => absurd h hA)
    rw [← valC_take, List.take_left' rfl] at ho5'
    have hbs : (Value.slice A l.length cp).ownBlock = (Value.slice A (l ++ [(k, n)]).length cp).ownBlock := by cases A <;> rfl
    have hns : ∀ g, (Value.slice A l.length cp).ownBlock = some g → g ≠ r ∧ g ≠ b := fun g hg => by
      rw [hbs] at hg
      have := hr.2.1.lt hg
      refine ⟨fun e => hr.2.2 (mem_blkS.2 (e ▸ hg)), by omega⟩
    refine h _ w7 ((hf5'.w.trans hu6.fr).then hu7.fr (by simp; omega)) ⟨hu7.fr.at_ hu6.at_ (by simp; omega), ?_, ?_⟩ hbs
    · exact (ho5'.keep hu6.fr fun g hg => by simpa using (hns g hg).1).keep hu7.fr fun g hg => by simpa using (hns g hg).2
    · intro hx
      exact (hns r (mem_blkS.1 hx)).1 rfl
  refine ⟨C.load1_of (v := .slice A (l ++ [(k, n)]).length cp) hr5 rfl ⟨trivial, C.load1_of (v := .slice A (l ++ [(k, n)]).length cp) hr5 rfl ⟨trivial, ?_⟩, trivial⟩, ⟨C.load1_of (v := .slice A (l ++ [(k, n)]).length cp) hr5 rfl ⟨trivial, ?_⟩, trivial⟩⟩
  · simp only [C.len_mk, C.sub_mk]
    rw [wrap64_id (by omega), e1]
    exact ⟨_, fun w' _ => hrun w', tail⟩
  · simp only [C.len_mk, C.sub_mk]
    rw [wrap64_id (by omega), e1]
    refine ⟨C.load1_of (v := .slice A (l ++ [(k, n)]).length cp) hr5 rfl ?_, trivial⟩
    exact ⟨trivial, _, fun w' _ => hrun w', tail⟩
end
end Go.Proofs.YtckageghbhkklaaV
