/- The cache of pages: a clone; a cache that nobody made. -/
import Derived.Test.YtfdpmgddlaamcaaCa16
import Derived.Test.YtfdpmgddlaamcaaCaCl
namespace Go.Proofs.YtfdpmgddlaamcaaV
open Go Go.Proofs Go.RowKit
set_option linter.unusedVariables false
set_option linter.unusedSimpArgs false
set_option maxRecDepth 10000
section
variable {K : VK} {w : World}
theorem Clone_c {b m c : Nat} {n : Int} {l : Pgs} (hC : Ca w b m n l c) (h : ∀ b' m' w', Fr [] w w' → w.heap.size ≤ b' → w.heap.size ≤ m' → Ca w' b' m' n l c → K (.pointer (some ⟨b', 0, none⟩)) w') :
    C.call Try.prog 24 #[.pointer (some ⟨b, 0, none⟩)] w K := by
  refine F24.sh ⟨_, eq_ptr_nil _ _ _ Try.underlying27, ?_⟩
  simp only [C.ite_true, C.ite_false, C.pick_true, C.pick_false, C.not_bool, C.field_ptr, C.nilCheck_ptr, C.add_mk, C.sub_mk, C.mul_mk, C.eql_mk, C.neq_mk, C.lss_mk, C.leq_mk, C.gtr_mk, C.geq_mk, C.conv_mk, C.len_mk, C.ext_0, C.ext_1, C.ext3_0, C.ext3_1, C.ext3_2, C.guarded_yes, C.guarded_tf, C.guarded_ft, C.guarded_undef, Bool.not_true, Bool.not_false, Nat.zero_add, eq_self, decide_true, decide_false]
  refine C.load1_of (v := .map (some m)) hC.is.blk rfl ⟨_, eq_map_nil _ _ m, ?_⟩
  simp only [C.ite_true, C.ite_false, C.pick_true, C.pick_false, C.not_bool, C.field_ptr, C.nilCheck_ptr, C.add_mk, C.sub_mk, C.mul_mk, C.eql_mk, C.neq_mk, C.lss_mk, C.leq_mk, C.gtr_mk, C.geq_mk, C.conv_mk, C.len_mk, C.ext_0, C.ext_1, C.ext3_0, C.ext3_1, C.ext3_2, C.guarded_yes, C.guarded_tf, C.guarded_ft, C.guarded_undef, Bool.not_true, Bool.not_false, Nat.zero_add, eq_self, decide_true, decide_false]
  refine F24.k3.to (C.draw_of (fun w' => w'.heap[b]? = some (.cells #[.int .i64 n, .map (some m)] 46 (0, 0))) fun w1 hf1 _ => ⟨hf1.at_ hC.is.blk (by simp), ?_⟩)
  have hC1 := hC.keep hf1 (by simp) (by simp)
  simp only [C.ite_true, C.ite_false, C.pick_true, C.pick_false, C.not_bool, C.field_ptr, C.nilCheck_ptr, C.add_mk, C.sub_mk, C.mul_mk, C.eql_mk, C.neq_mk, C.lss_mk, C.leq_mk, C.gtr_mk, C.geq_mk, C.conv_mk, C.len_mk, C.ext_0, C.ext_1, C.ext3_0, C.ext3_1, C.ext3_2, C.guarded_yes, C.guarded_tf, C.guarded_ft, C.guarded_undef, Bool.not_true, Bool.not_false, Nat.zero_add, eq_self, decide_true, decide_false]
  refine C.load1S_of (v := .int .i64 n) (fun w' hw => ⟨_, _, _, hw, rfl⟩) (C.load1S_of (v := .map (some m)) (fun w' hw => ⟨_, _, _, hw, rfl⟩) ?_)
  refine ⟨(AnyW.maps_Clone cloneM m _ c w1 hC1.is.map).mono ?_, trivial⟩
  rintro e w2 ⟨rfl, rfl⟩
  have hn2 := New.mk' w1 (.map (l.map (ent seatV)).toArray c)
  refine ⟨_, rfl, hn2.fr.at_ hC1.is.blk (by simp), .agg #[.int .i64 n, .map (some w1.heap.size)], fun w' _ => bCache n _, C.new_of fun b' w3 hn3 => ?_, trivial⟩
  have s1 := hf1.size
  have i3 := hn3.is
  have z2 := hn2.sz
  refine ⟨hn3.fr.at_ (hn2.fr.at_ hC1.is.blk (by simp)) (by simp), h b' w1.heap.size w3 (hf1.trans (hn2.fr.trans hn3.fr)) (by omega) (by omega) ⟨⟨hn3.at_, hn3.fr.at_ hn2.at_ (by simp), hC.is.int⟩, hC.good, hC.kept⟩⟩
/-! ### Of nil -/
theorem Owner_nil {p : Int} (h : K (.tuple #[.int .i64 (-1), .int .i64 0]) w) : C.call Try.prog 20 #[.pointer none, .int .i64 p] w K := by
  refine F20.sh ⟨_, eq_nil_nil _ _ Try.underlying27, ?_⟩
  simp only [C.ite_true, C.ite_false, C.pick_true, C.pick_false, C.not_bool, C.field_ptr, C.nilCheck_ptr, C.add_mk, C.sub_mk, C.mul_mk, C.eql_mk, C.neq_mk, C.lss_mk, C.leq_mk, C.gtr_mk, C.geq_mk, C.conv_mk, C.len_mk, C.ext_0, C.ext_1, C.ext3_0, C.ext3_1, C.ext3_2, C.guarded_yes, C.guarded_tf, C.guarded_ft, C.guarded_undef, Bool.not_true, Bool.not_false, Nat.zero_add, eq_self, decide_true, decide_false]
  exact h
theorem Page_nil {t k : Int} (h : K (.int .i64 (-1)) w) : C.call Try.prog 21 #[.pointer none, .int .i64 t, .int .i64 k] w K := by
  refine F21.sh ⟨_, eq_nil_nil _ _ Try.underlying27, ?_⟩
  simp only [C.ite_true, C.ite_false, C.pick_true, C.pick_false, C.not_bool, C.field_ptr, C.nilCheck_ptr, C.add_mk, C.sub_mk, C.mul_mk, C.eql_mk, C.neq_mk, C.lss_mk, C.leq_mk, C.gtr_mk, C.geq_mk, C.conv_mk, C.len_mk, C.ext_0, C.ext_1, C.ext3_0, C.ext3_1, C.ext3_2, C.guarded_yes, C.guarded_tf, C.guarded_ft, C.guarded_undef, Bool.not_true, Bool.not_false, Nat.zero_add, eq_self, decide_true, decide_false]
  exact h
theorem Set_nil {t k p : Int} (h : K (.bool false) w) : C.call Try.prog 19 #[.pointer none, .int .i64 t, .int .i64 k, .int .i64 p] w K := by
  refine F19.sh ⟨_, eq_nil_nil _ _ Try.underlying27, ?_⟩
  simp only [C.ite_true, C.ite_false, C.pick_true, C.pick_false, C.not_bool, C.field_ptr, C.nilCheck_ptr, C.add_mk, C.sub_mk, C.mul_mk, C.eql_mk, C.neq_mk, C.lss_mk, C.leq_mk, C.gtr_mk, C.geq_mk, C.conv_mk, C.len_mk, C.ext_0, C.ext_1, C.ext3_0, C.ext3_1, C.ext3_2, C.guarded_yes, C.guarded_tf, C.guarded_ft, C.guarded_undef, Bool.not_true, Bool.not_false, Nat.zero_add, eq_self, decide_true, decide_false]
  exact h
theorem Drop_nil {t : Int} (h : K (.slice none 0 0) w) : C.call Try.prog 18 #[.pointer none, .int .i64 t] w K := by
  refine F18.sh ⟨_, eq_nil_nil _ _ Try.underlying27, ?_⟩
  simp only [C.ite_true, C.ite_false, C.pick_true, C.pick_false, C.not_bool, C.field_ptr, C.nilCheck_ptr, C.add_mk, C.sub_mk, C.mul_mk, C.eql_mk, C.neq_mk, C.lss_mk, C.leq_mk, C.gtr_mk, C.geq_mk, C.conv_mk, C.len_mk, C.ext_0, C.ext_1, C.ext3_0, C.ext3_1, C.ext3_2, C.guarded_yes, C.guarded_tf, C.guarded_ft, C.guarded_undef, Bool.not_true, Bool.not_false, Nat.zero_add, eq_self, decide_true, decide_false]
  exact h
theorem All_nil (h : K (.slice none 0 0) w) : C.call Try.prog 23 #[.pointer none] w K := by
  refine F23.sh ⟨_, eq_nil_nil _ _ Try.underlying27, ?_⟩
  simp only [C.ite_true, C.ite_false, C.pick_true, C.pick_false, C.not_bool, C.field_ptr, C.nilCheck_ptr, C.add_mk, C.sub_mk, C.mul_mk, C.eql_mk, C.neq_mk, C.lss_mk, C.leq_mk, C.gtr_mk, C.geq_mk, C.conv_mk, C.len_mk, C.ext_0, C.ext_1, C.ext3_0, C.ext3_1, C.ext3_2, C.guarded_yes, C.guarded_tf, C.guarded_ft, C.guarded_undef, Bool.not_true, Bool.not_false, Nat.zero_add, eq_self, decide_true, decide_false]
  exact h
theorem Clone_nil (h : K (.pointer none) w) : C.call Try.prog 24 #[.pointer none] w K := by
  refine F24.sh ⟨_, eq_nil_nil _ _ Try.underlying27, ?_⟩
  simp only [C.ite_true, C.ite_false, C.pick_true, C.pick_false, C.not_bool, C.field_ptr, C.nilCheck_ptr, C.add_mk, C.sub_mk, C.mul_mk, C.eql_mk, C.neq_mk, C.lss_mk, C.leq_mk, C.gtr_mk, C.geq_mk, C.conv_mk, C.len_mk, C.ext_0, C.ext_1, C.ext3_0, C.ext3_1, C.ext3_2, C.guarded_yes, C.guarded_tf, C.guarded_ft, C.guarded_undef, Bool.not_true, Bool.not_false, Nat.zero_add, eq_self, decide_true, decide_false]
  exact h
/-! ### Of a cache that nobody made -/
def Odd (w : World) (b : Nat) : Prop := w.heap[b]? = some (.cells #[.int .i64 0, .map none] 46 (0, 0))
theorem Odd.keep {w' : World} {b : Nat} (h : Odd w b) (hf : Fr [] w w') : Odd w' b := hf.at_ h (by simp)
theorem bOdd : (Instr.build 46 #[]).run Try.prog w = .ok (.agg #[.int .i64 0, .map none]) w := by kernel_rfl
theorem nil_map_nil (x y : Operand) : (do eqGuard .eql 44 x y (.map none) (.map none); binOp .eql 44 (.map none) (.map none) : Sem Value).run Try.prog w = .ok (.bool true) w := by
  have h : ∀ d, (Op.equalIn (d + 1) 44 (.map none) (.map none)).run Try.prog w = .ok true w := fun d => by simp [Op.equalIn, run_underlying Try.underlying44]
  exact eqS_eql (by simp [eqGuard]) rfl (h 9999)
theorem look_nil (a : Int × Int) : (Instr.lookup 44 (.map none) (seatV a) true).run Try.prog w = .ok (.tuple #[.int .i64 0, .bool false]) w := by
  have hz := run_zeroOf (w := w) (P := Try.prog) (t := 3) (z := .int .i64 0) (by kernel_rfl)
  have hf : (Instr.findKey 104 (seatV a) []).run Try.prog w = .ok none w := keySeat.find a [] w
  simp [Instr.lookup, run_underlying Try.underlying44, keySeat.check, hz, hf]
theorem Owner_odd {b : Nat} {p : Int} (hb : Odd w b) (h : ∀ w', Fr [] w w' → K (.tuple #[.int .i64 (-1), .int .i64 0]) w') : C.call Try.prog 20 #[.pointer (some ⟨b, 0, none⟩), .int .i64 p] w K := by
  refine F20.sh ⟨_, eq_ptr_nil _ _ _ Try.underlying27, ?_⟩
  simp only [C.ite_true, C.ite_false, C.pick_true, C.pick_false, C.not_bool, C.field_ptr, C.nilCheck_ptr, C.add_mk, C.sub_mk, C.mul_mk, C.eql_mk, C.neq_mk, C.lss_mk, C.leq_mk, C.gtr_mk, C.geq_mk, C.conv_mk, C.len_mk, C.ext_0, C.ext_1, C.ext3_0, C.ext3_1, C.ext3_2, C.guarded_yes, C.guarded_tf, C.guarded_ft, C.guarded_undef, Bool.not_true, Bool.not_false, Nat.zero_add, eq_self, decide_true, decide_false]
  refine F20.k3.to ?_
  simp only [C.ite_true, C.ite_false, C.pick_true, C.pick_false, C.not_bool, C.field_ptr, C.nilCheck_ptr, C.add_mk, C.sub_mk, C.mul_mk, C.eql_mk, C.neq_mk, C.lss_mk, C.leq_mk, C.gtr_mk, C.geq_mk, C.conv_mk, C.len_mk, C.ext_0, C.ext_1, C.ext3_0, C.ext3_1, C.ext3_2, C.guarded_yes, C.guarded_tf, C.guarded_ft, C.guarded_undef, Bool.not_true, Bool.not_false, Nat.zero_add, eq_self, decide_true, decide_false]
  refine C.load1_of (v := .map none) hb rfl (C.run_of (run_range_nilMap w 44 104 3 Try.underlying44) ?_)
  refine F20.l4.to (C.run_of (run_next_nilMap w 0 0 0 #[]) ⟨#[.bool false], .bool false, rfl, rfl, ?_⟩)
  simp only [C.ite_true, C.ite_false, C.pick_true, C.pick_false, C.not_bool, C.field_ptr, C.nilCheck_ptr, C.add_mk, C.sub_mk, C.mul_mk, C.eql_mk, C.neq_mk, C.lss_mk, C.leq_mk, C.gtr_mk, C.geq_mk, C.conv_mk, C.len_mk, C.ext_0, C.ext_1, C.ext3_0, C.ext3_1, C.ext3_2, C.guarded_yes, C.guarded_tf, C.guarded_ft, C.guarded_undef, Bool.not_true, Bool.not_false, Nat.zero_add, eq_self, decide_true, decide_false]
  exact F20.k8.to (h _ (New.mk' w _).fr)
theorem Page_odd {b : Nat} {t k : Int} (hb : Odd w b) (h : K (.int .i64 (-1)) w) : C.call Try.prog 21 #[.pointer (some ⟨b, 0, none⟩), .int .i64 t, .int .i64 k] w K := by
  refine F21.sh ⟨_, eq_ptr_nil _ _ _ Try.underlying27, ?_⟩
  simp only [C.ite_true, C.ite_false, C.pick_true, C.pick_false, C.not_bool, C.field_ptr, C.nilCheck_ptr, C.add_mk, C.sub_mk, C.mul_mk, C.eql_mk, C.neq_mk, C.lss_mk, C.leq_mk, C.gtr_mk, C.geq_mk, C.conv_mk, C.len_mk, C.ext_0, C.ext_1, C.ext3_0, C.ext3_1, C.ext3_2, C.guarded_yes, C.guarded_tf, C.guarded_ft, C.guarded_undef, Bool.not_true, Bool.not_false, Nat.zero_add, eq_self, decide_true, decide_false]
  refine F21.k3.to ?_
  simp only [C.ite_true, C.ite_false, C.pick_true, C.pick_false, C.not_bool, C.field_ptr, C.nilCheck_ptr, C.add_mk, C.sub_mk, C.mul_mk, C.eql_mk, C.neq_mk, C.lss_mk, C.leq_mk, C.gtr_mk, C.geq_mk, C.conv_mk, C.len_mk, C.ext_0, C.ext_1, C.ext3_0, C.ext3_1, C.ext3_2, C.guarded_yes, C.guarded_tf, C.guarded_ft, C.guarded_undef, Bool.not_true, Bool.not_false, Nat.zero_add, eq_self, decide_true, decide_false]
  refine C.load1_of (v := .map none) hb rfl (C.run_of (bSeat t k) (C.run_of (look_nil (t, k)) ?_))
  simp only [C.ite_true, C.ite_false, C.pick_true, C.pick_false, C.not_bool, C.field_ptr, C.nilCheck_ptr, C.add_mk, C.sub_mk, C.mul_mk, C.eql_mk, C.neq_mk, C.lss_mk, C.leq_mk, C.gtr_mk, C.geq_mk, C.conv_mk, C.len_mk, C.ext_0, C.ext_1, C.ext3_0, C.ext3_1, C.ext3_2, C.guarded_yes, C.guarded_tf, C.guarded_ft, C.guarded_undef, Bool.not_true, Bool.not_false, Nat.zero_add, eq_self, decide_true, decide_false]
  exact F21.k6.to h
theorem Set_odd {b : Nat} {t k p : Int} (hb : Odd w b) (h : K (.bool false) w) : C.call Try.prog 19 #[.pointer (some ⟨b, 0, none⟩), .int .i64 t, .int .i64 k, .int .i64 p] w K := by
  refine F19.sh ⟨_, eq_ptr_nil _ _ _ Try.underlying27, ?_⟩
  simp only [C.ite_true, C.ite_false, C.pick_true, C.pick_false, C.not_bool, C.field_ptr, C.nilCheck_ptr, C.add_mk, C.sub_mk, C.mul_mk, C.eql_mk, C.neq_mk, C.lss_mk, C.leq_mk, C.gtr_mk, C.geq_mk, C.conv_mk, C.len_mk, C.ext_0, C.ext_1, C.ext3_0, C.ext3_1, C.ext3_2, C.guarded_yes, C.guarded_tf, C.guarded_ft, C.guarded_undef, Bool.not_true, Bool.not_false, Nat.zero_add, eq_self, decide_true, decide_false]
  refine C.load1_of (v := .map none) hb rfl ⟨_, nil_map_nil _ _, ?_⟩
  simp only [C.ite_true, C.ite_false, C.pick_true, C.pick_false, C.not_bool, C.field_ptr, C.nilCheck_ptr, C.add_mk, C.sub_mk, C.mul_mk, C.eql_mk, C.neq_mk, C.lss_mk, C.leq_mk, C.gtr_mk, C.geq_mk, C.conv_mk, C.len_mk, C.ext_0, C.ext_1, C.ext3_0, C.ext3_1, C.ext3_2, C.guarded_yes, C.guarded_tf, C.guarded_ft, C.guarded_undef, Bool.not_true, Bool.not_false, Nat.zero_add, eq_self, decide_true, decide_false]
  exact h
theorem Clone_odd {b : Nat} (hb : Odd w b) (h : K (.pointer none) w) : C.call Try.prog 24 #[.pointer (some ⟨b, 0, none⟩)] w K := by
  refine F24.sh ⟨_, eq_ptr_nil _ _ _ Try.underlying27, ?_⟩
  simp only [C.ite_true, C.ite_false, C.pick_true, C.pick_false, C.not_bool, C.field_ptr, C.nilCheck_ptr, C.add_mk, C.sub_mk, C.mul_mk, C.eql_mk, C.neq_mk, C.lss_mk, C.leq_mk, C.gtr_mk, C.geq_mk, C.conv_mk, C.len_mk, C.ext_0, C.ext_1, C.ext3_0, C.ext3_1, C.ext3_2, C.guarded_yes, C.guarded_tf, C.guarded_ft, C.guarded_undef, Bool.not_true, Bool.not_false, Nat.zero_add, eq_self, decide_true, decide_false]
  refine C.load1_of (v := .map none) hb rfl ⟨_, nil_map_nil _ _, ?_⟩
  simp only [C.ite_true, C.ite_false, C.pick_true, C.pick_false, C.not_bool, C.field_ptr, C.nilCheck_ptr, C.add_mk, C.sub_mk, C.mul_mk, C.eql_mk, C.neq_mk, C.lss_mk, C.leq_mk, C.gtr_mk, C.geq_mk, C.conv_mk, C.len_mk, C.ext_0, C.ext_1, C.ext3_0, C.ext3_1, C.ext3_2, C.guarded_yes, C.guarded_tf, C.guarded_ft, C.guarded_undef, Bool.not_true, Bool.not_false, Nat.zero_add, eq_self, decide_true, decide_false]
  exact h
theorem All_odd {b : Nat} (hb : Odd w b) (h : ∀ v w', Fr [] w w' → OwnS w' v 3 1 (intC []) → K v w') : C.call Try.prog 23 #[.pointer (some ⟨b, 0, none⟩)] w K := by
  refine F23.sh ⟨_, eq_ptr_nil _ _ _ Try.underlying27, ?_⟩
  simp only [C.ite_true, C.ite_false, C.pick_true, C.pick_false, C.not_bool, C.field_ptr, C.nilCheck_ptr, C.add_mk, C.sub_mk, C.mul_mk, C.eql_mk, C.neq_mk, C.lss_mk, C.leq_mk, C.gtr_mk, C.geq_mk, C.conv_mk, C.len_mk, C.ext_0, C.ext_1, C.ext3_0, C.ext3_1, C.ext3_2, C.guarded_yes, C.guarded_tf, C.guarded_ft, C.guarded_undef, Bool.not_true, Bool.not_false, Nat.zero_add, eq_self, decide_true, decide_false]
  refine F23.k3.to ?_
  simp only [C.ite_true, C.ite_false, C.pick_true, C.pick_false, C.not_bool, C.field_ptr, C.nilCheck_ptr, C.add_mk, C.sub_mk, C.mul_mk, C.eql_mk, C.neq_mk, C.lss_mk, C.leq_mk, C.gtr_mk, C.geq_mk, C.conv_mk, C.len_mk, C.ext_0, C.ext_1, C.ext3_0, C.ext3_1, C.ext3_2, C.guarded_yes, C.guarded_tf, C.guarded_ft, C.guarded_undef, Bool.not_true, Bool.not_false, Nat.zero_add, eq_self, decide_true, decide_false]
  refine C.load1_of (v := .map none) hb rfl (F58.sh (C.new_of fun x1 w1 hn1 => F57.sh (F102.sh (F141.sh (C.new_of fun b2 w2 hn2 => ?_)))))
  simp only [C.range, bodied103, cond_true]
  intro fn tmps hsz henv
  have hw3 := New.mk' w2 (.deferred (some []))
  have hw4 := New.mk' (w2.alloc (.deferred (some []))) (.loop { state := .ready, pending := none, fn := fn, tmps := tmps, params := #[7], assign := F141.as2, body := F141.bd2, defers := w2.heap.size })
  have z3 := hw3.sz
  have f24 := hw3.fr.trans hw4.fr
  have hD4 := hw4.fr.at_ hw3.at_ (by simp)
  have hl4 := hw4.at_
  rw [z3] at hl4
  generalize ((w2.alloc (.deferred (some []))).alloc (.loop { state := .ready, pending := none, fn := fn, tmps := tmps, params := #[7], assign := F141.as2, body := F141.bd2, defers := w2.heap.size })) = w4 at *
  have i1 := hn1.is
  have i2 := hn2.is
  have z1 := hn1.sz
  have z2 := hn2.sz
  have f04 : Fr [] w w4 := hn1.fr.trans (hn2.fr.trans f24)
  have hx4 : w4.heap[x1]? = some (.cells #[.map none] 44 (0, 0)) := (hn2.fr.trans f24).at_ hn1.at_ (by simp)
  have hb4 : w4.heap[b2]? = some (.cells #[.slice none 0 0] 34 (0, 0)) := f24.at_ hn2.at_ (by simp)
  refine F103.sh (C.load1_of (v := .map none) hx4 rfl (C.run_of (run_range_nilMap w4 44 104 3 Try.underlying44) ?_))
  refine F103.l1.to (C.run_of (run_next_nilMap w4 0 0 0 #[]) ⟨#[.bool false], .bool false, rfl, rfl, ?_⟩)
  simp only [C.ite_true, C.ite_false, C.pick_true, C.pick_false, C.not_bool, C.field_ptr, C.nilCheck_ptr, C.add_mk, C.sub_mk, C.mul_mk, C.eql_mk, C.neq_mk, C.lss_mk, C.leq_mk, C.gtr_mk, C.geq_mk, C.conv_mk, C.len_mk, C.ext_0, C.ext_1, C.ext3_0, C.ext3_1, C.ext3_2, C.guarded_yes, C.guarded_tf, C.guarded_ft, C.guarded_undef, Bool.not_true, Bool.not_false, Nat.zero_add, eq_self, decide_true, decide_false]
  have hn5 := New.mk' w4 (.mapIter none 0 #[] 0)
  generalize w4.alloc (.mapIter none 0 #[] 0) = w5 at *
  have hl5 := hn5.fr.at_ hl4 (by simp)
  have hD5 := hn5.fr.at_ hD4 (by simp)
  have hb5 := hn5.fr.at_ hb4 (by simp)
  refine ⟨_, hl5, by simp, ?_⟩
  have hu6 := upd_put (o := .loop { state := .exhausted, pending := none, fn := fn, tmps := tmps, params := #[7], assign := F141.as2, body := F141.bd2, defers := w2.heap.size }) hl5
  generalize w5.putObj (w2.heap.size + 1) (.loop { state := .exhausted, pending := none, fn := fn, tmps := tmps, params := #[7], assign := F141.as2, body := F141.bd2, defers := w2.heap.size }) = w6 at *
  have hD6 := hu6.fr.at_ hD5 (by simp)
  have hb6 := hu6.fr.at_ hb5 (by simp; omega)
  show F141.k4 _ (.pointer (some ⟨b2, 0, none⟩)) (.int .i64 (w2.heap.size : Int)) w6
  refine F141.k4.to (C.load1_of (v := .slice none 0 0) hb6 rfl ⟨by rw [Int.toNat_natCast]; exact hD6, ?_⟩)
  rw [Int.toNat_natCast]
  have hu7 := upd_put (o := .deferred none) hD6
  generalize w6.putObj w2.heap.size (.deferred none) = w7 at *
  have s04 := f04.size
  refine SortI_c (l := []) (OwnS.nil w7 _ _) (by simp) fun w8 hf8 ho8 => ?_
  have e : srt [] = [] := by simp [srt]
  rw [e] at ho8
  exact h _ w8 ((((f04.trans hn5.fr).then hu6.fr fun z hz => .inr (by simp only [List.mem_singleton] at hz; omega)).then hu7.fr fun z hz => .inr (by simp only [List.mem_singleton] at hz; omega)).then hf8 fun z hz => by simp [blkS, Value.ownBlock] at hz) ho8
end
end Go.Proofs.YtfdpmgddlaamcaaV
