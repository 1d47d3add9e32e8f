/- The cache of pages: a step, by the program. -/
import Derived.Test.YtfdpmgddlaamcaaCa14
namespace Go.Proofs.YtfdpmgddlaamcaaV
open Go Go.Proofs Go.RowKit
set_option linter.unusedVariables false
set_option linter.unusedSimpArgs false
set_option maxRecDepth 10000
structure RS (w : World) (b m : Nat) (n : Int) (mv : Value) (l : Pgs) (c : Nat) (ms : Ows) : Prop where
  ca : Ca w b m n l c
  own : OwnS w mv 100 3 (owC ms)
  sim : Sim l ms
section
variable {K : VK} {w : World} {b m c : Nat} {n : Int} {mv : Value} {l : Pgs} {ms : Ows}
theorem RS.keep {S : List Nat} {w' : World} (h : RS w b m n mv l c ms) (hf : Fr S w w') (hb : b ∉ S) (hm : m ∉ S) (ho : ∀ g ∈ blkS mv, g ∉ S) : RS w' b m n mv l c ms := ⟨h.ca.keep hf hb hm, h.own.keep' hf ho, h.sim⟩
theorem RS.keep0 {w' : World} (h : RS w b m n mv l c ms) (hf : Fr [] w w') : RS w' b m n mv l c ms := h.keep hf (by simp) (by simp) (by simp)
theorem RS.np (h : RS w b m n mv l c ms) : (ms.map fun x => x.2).Nodup := h.sim.np h.ca.good
theorem RS.len (h : RS w b m n mv l c ms) : ms.length ≤ 64 := by
  have := nodup_few 64 (ms.map fun x => x.2) h.np fun x hx => by
    obtain ⟨y, hy, rfl⟩ := List.mem_map.1 hx
    have := ((h.sim.mem y.1 y.2).1 hy).in h.ca.kept
    omega
  simpa using this
/-- No own slice's block is the map's. -/
theorem IsC.off {v : Value} {e : TypeId} {sz : Nat} {xs : List (List Value)} (h : IsC w b m n l c) (ho : OwnS w v e sz xs) : m ∉ blkS v := ho.no h.map (by simp)
theorem step_no {x7 : Nat} {kd t k p : Int} (hR : RS w b m n mv l c ms) (hx : w.heap[x7]? = some (.cells #[.int .i64 kd, .int .i64 t, .int .i64 k, .int .i64 p] 33 (0, 0))) (hn : ¬ may n l t k p)
    (h : ∀ w', Fr [] w w' → K (.tuple #[mv, .bool true]) w') :
    C.load1 (.pointer (some ⟨x7, 1, none⟩)) w fun x65 w36 => C.load1 (.pointer (some ⟨x7, 2, none⟩)) w36 fun x67 w38 => C.load1 (.pointer (some ⟨x7, 3, none⟩)) w38 fun x69 w40 =>
      C.call Try.prog 19 #[.pointer (some ⟨b, 0, none⟩), x65, x67, x69] w40 fun x70 w41 => C.not x70 w41 fun x71 w42 => K (.tuple #[mv, x71]) w42 := by
  refine C.load1_of (v := .int .i64 t) hx rfl (C.load1_of (v := .int .i64 k) hx rfl (C.load1_of (v := .int .i64 p) hx rfl (SetCa_c hR.ca (fun _ w' hf => ?_) fun hm => absurd hm hn)))
  simp only [C.ite_true, C.ite_false, C.pick_true, C.pick_false, C.not_bool, C.field_ptr, C.nilCheck_ptr, C.add_mk, C.sub_mk, C.mul_mk, C.eql_mk, C.neq_mk, C.lss_mk, C.leq_mk, C.gtr_mk, C.geq_mk, C.conv_mk, C.len_mk, C.ext_0, C.ext_1, C.ext3_0, C.ext3_1, C.ext3_2, C.guarded_yes, C.guarded_tf, C.guarded_ft, C.guarded_undef, Bool.not_true, Bool.not_false, Nat.zero_add, eq_self, decide_true, decide_false]
  exact h w' hf
theorem step_yes {x7 : Nat} {kd t k p : Int} (hR : RS w b m n mv l c ms) (hx : w.heap[x7]? = some (.cells #[.int .i64 kd, .int .i64 t, .int .i64 k, .int .i64 p] 33 (0, 0))) (hm : may n l t k p)
    (h : ∀ mv' w' l' c' ms', Fr [m] w w' → RS w' b m n mv' l' c' ms' → K (.tuple #[mv', .bool true]) w') :
    F52.k6 K (.pointer (some ⟨b, 0, none⟩)) mv (.pointer (some ⟨x7, 0, none⟩)) w := by
  have hl := hR.len
  have hk : ¬ (k < 1 ∨ k ≥ 5) := fun e => hm.2.2.1 (csz_zero.2 e)
  refine F52.k6.to ?_
  simp only [C.ite_true, C.ite_false, C.pick_true, C.pick_false, C.not_bool, C.field_ptr, C.nilCheck_ptr, C.add_mk, C.sub_mk, C.mul_mk, C.eql_mk, C.neq_mk, C.lss_mk, C.leq_mk, C.gtr_mk, C.geq_mk, C.conv_mk, C.len_mk, C.ext_0, C.ext_1, C.ext3_0, C.ext3_1, C.ext3_2, C.guarded_yes, C.guarded_tf, C.guarded_ft, C.guarded_undef, Bool.not_true, Bool.not_false, Nat.zero_add, eq_self, decide_true, decide_false]
  refine C.load1_of (v := .int .i64 t) hx rfl (C.load1_of (v := .int .i64 k) hx rfl (without_c hR.own.rd (by omega) hR.np fun ov gv w1 hf1 nO hO hG => ?_))
  have hx1 := hf1.at_ hx (by simp)
  have lo := outL_len ms t k
  simp only [C.ite_true, C.ite_false, C.pick_true, C.pick_false, C.not_bool, C.field_ptr, C.nilCheck_ptr, C.add_mk, C.sub_mk, C.mul_mk, C.eql_mk, C.neq_mk, C.lss_mk, C.leq_mk, C.gtr_mk, C.geq_mk, C.conv_mk, C.len_mk, C.ext_0, C.ext_1, C.ext3_0, C.ext3_1, C.ext3_2, C.guarded_yes, C.guarded_tf, C.guarded_ft, C.guarded_undef, Bool.not_true, Bool.not_false, Nat.zero_add, eq_self, decide_true, decide_false]
  refine C.load1_of (v := .int .i64 t) hx1 rfl (C.load1_of (v := .int .i64 k) hx1 rfl (C.load1_of (v := .int .i64 p) hx1 rfl (C.run_of (bOw t k p) ?_)))
  refine C.appW hO (by omega) fun o' w2 ho2 hf2 hg2 => ?_
  have lx := lt_of_at hx
  have f02 : Fr [] w w2 := hf1.then hf2 fun z hz => .inr (nO.blk z hz)
  have hx2 := f02.at_ hx (by simp)
  try simp only [C.ite_true, C.ite_false, C.pick_true, C.pick_false, C.not_bool, C.field_ptr, C.nilCheck_ptr, C.add_mk, C.sub_mk, C.mul_mk, C.eql_mk, C.neq_mk, C.lss_mk, C.leq_mk, C.gtr_mk, C.geq_mk, C.conv_mk, C.len_mk, C.ext_0, C.ext_1, C.ext3_0, C.ext3_1, C.ext3_2, C.guarded_yes, C.guarded_tf, C.guarded_ft, C.guarded_undef, Bool.not_true, Bool.not_false, Nat.zero_add, eq_self, decide_true, decide_false]
  refine C.load1_of (v := .int .i64 t) hx2 rfl (C.load1_of (v := .int .i64 k) hx2 rfl (C.load1_of (v := .int .i64 p) hx2 rfl ?_))
  have hC2 := hR.ca.keep f02 (by simp) (by simp)
  refine SetCa_c hC2 (fun hn => absurd hm hn) fun _ w3 hf3 hC3 => h o' w3 _ _ (outL ms t k ++ [((t, k), p)]) ((f02.w).trans hf3) ⟨hC3, ho2.keep' hf3 fun g hg e => ?_, hR.sim.set hR.ca.kept (by omega)⟩
  simp only [List.mem_singleton] at e
  subst e
  exact hC2.is.off ho2 hg
theorem csz_ge (k : Int) : 0 ≤ csz k := by
  unfold csz
  repeat' split
  all_goals omega
theorem step_c {x : COp} (hR : RS w b m n mv l c ms) (h : ∀ mv' w' l' c' ms', Fr [m] w w' → RS w' b m n mv' l' c' ms' → K (.tuple #[mv', .bool true]) w') :
    C.call Try.prog 52 #[.pointer (some ⟨b, 0, none⟩), .int .i64 n, mv, .agg #[.int .i64 x.kd, .int .i64 x.t, .int .i64 x.k, .int .i64 x.p]] w K := by
  obtain ⟨kd, t, k, p⟩ := x
  have hl := hR.len
  refine F52.sh (C.new_of fun x7 w1 hn1 => ?_)
  have hx1 : w1.heap[x7]? = some (.cells #[.int .i64 kd, .int .i64 t, .int .i64 k, .int .i64 p] 33 (0, 0)) := hn1.at_
  have hR1 := hR.keep0 hn1.fr
  have fin : ∀ mv' w' l' c' ms', Fr [m] w1 w' → RS w' b m n mv' l' c' ms' → K (.tuple #[mv', .bool true]) w' := fun mv' w' l' c' ms' hf hR' => h mv' w' l' c' ms' (hn1.fr.w.trans hf) hR'
  simp only [C.ite_true, C.ite_false, C.pick_true, C.pick_false, C.not_bool, C.field_ptr, C.nilCheck_ptr, C.add_mk, C.sub_mk, C.mul_mk, C.eql_mk, C.neq_mk, C.lss_mk, C.leq_mk, C.gtr_mk, C.geq_mk, C.conv_mk, C.len_mk, C.ext_0, C.ext_1, C.ext3_0, C.ext3_1, C.ext3_2, C.guarded_yes, C.guarded_tf, C.guarded_ft, C.guarded_undef, Bool.not_true, Bool.not_false, Nat.zero_add, eq_self, decide_true, decide_false]
  refine C.load1_of (v := .int .i64 kd) hx1 rfl ?_
  by_cases c1 : kd = 1
  · simp only [C.ite_true, C.ite_false, C.pick_true, C.pick_false, C.not_bool, C.field_ptr, C.nilCheck_ptr, C.add_mk, C.sub_mk, C.mul_mk, C.eql_mk, C.neq_mk, C.lss_mk, C.leq_mk, C.gtr_mk, C.geq_mk, C.conv_mk, C.len_mk, C.ext_0, C.ext_1, C.ext3_0, C.ext3_1, C.ext3_2, C.guarded_yes, C.guarded_tf, C.guarded_ft, C.guarded_undef, Bool.not_true, Bool.not_false, Nat.zero_add, eq_self, decide_true, decide_false, c1]
    refine C.load1_of (v := .int .i64 p) hx1 rfl (owner96_c hR1.own.rd (by omega) fun w2 hf2 => ?_)
    have hx2 := hf2.at_ hx1 (by simp)
    have hR2 := hR1.keep0 hf2
    have eo : ownL ms p = ownerOf l p := hR.sim.own (n := n) hR.ca.good p
    rw [eo]
    have no := fun (hnm : ¬ may n l t k p) => step_no (K := K) hR2 hx2 hnm fun w' hf' => fin mv w' l c ms ((hf2.trans hf').w) (hR2.keep0 hf')
    simp only [C.ite_true, C.ite_false, C.pick_true, C.pick_false, C.not_bool, C.field_ptr, C.nilCheck_ptr, C.add_mk, C.sub_mk, C.mul_mk, C.eql_mk, C.neq_mk, C.lss_mk, C.leq_mk, C.gtr_mk, C.geq_mk, C.conv_mk, C.len_mk, C.ext_0, C.ext_1, C.ext3_0, C.ext3_1, C.ext3_2, C.guarded_yes, C.guarded_tf, C.guarded_ft, C.guarded_undef, Bool.not_true, Bool.not_false, Nat.zero_add, eq_self, decide_true, decide_false]
    refine C.load1_of (v := .int .i64 t) hx2 rfl ?_
    by_cases t0 : t ≥ 0
    · simp only [C.ite_true, C.ite_false, C.pick_true, C.pick_false, C.not_bool, C.field_ptr, C.nilCheck_ptr, C.add_mk, C.sub_mk, C.mul_mk, C.eql_mk, C.neq_mk, C.lss_mk, C.leq_mk, C.gtr_mk, C.geq_mk, C.conv_mk, C.len_mk, C.ext_0, C.ext_1, C.ext3_0, C.ext3_1, C.ext3_2, C.guarded_yes, C.guarded_tf, C.guarded_ft, C.guarded_undef, Bool.not_true, Bool.not_false, Nat.zero_add, eq_self, decide_true, decide_false, t0]
      refine C.load1_of (v := .int .i64 t) hx2 rfl ?_
      by_cases t1 : t < n
      · simp only [C.ite_true, C.ite_false, C.pick_true, C.pick_false, C.not_bool, C.field_ptr, C.nilCheck_ptr, C.add_mk, C.sub_mk, C.mul_mk, C.eql_mk, C.neq_mk, C.lss_mk, C.leq_mk, C.gtr_mk, C.geq_mk, C.conv_mk, C.len_mk, C.ext_0, C.ext_1, C.ext3_0, C.ext3_1, C.ext3_2, C.guarded_yes, C.guarded_tf, C.guarded_ft, C.guarded_undef, Bool.not_true, Bool.not_false, Nat.zero_add, eq_self, decide_true, decide_false, t1]
        refine C.load1_of (v := .int .i64 k) hx2 rfl (refSize_c fun w3 hf3 => ?_)
        have hx3 := hf3.at_ hx2 (by simp)
        have hR3 := hR2.keep0 hf3
        have no := fun (hnm : ¬ may n l t k p) => step_no (K := K) hR3 hx3 hnm fun w' hf' => fin mv w' l c ms (((hf2.trans hf3).trans hf').w) (hR3.keep0 hf')
        by_cases k0 : csz k > 0
        · simp only [C.ite_true, C.ite_false, C.pick_true, C.pick_false, C.not_bool, C.field_ptr, C.nilCheck_ptr, C.add_mk, C.sub_mk, C.mul_mk, C.eql_mk, C.neq_mk, C.lss_mk, C.leq_mk, C.gtr_mk, C.geq_mk, C.conv_mk, C.len_mk, C.ext_0, C.ext_1, C.ext3_0, C.ext3_1, C.ext3_2, C.guarded_yes, C.guarded_tf, C.guarded_ft, C.guarded_undef, Bool.not_true, Bool.not_false, Nat.zero_add, eq_self, decide_true, decide_false, k0]
          refine C.load1_of (v := .int .i64 p) hx3 rfl ?_
          by_cases p0 : p ≥ 0
          · simp only [C.ite_true, C.ite_false, C.pick_true, C.pick_false, C.not_bool, C.field_ptr, C.nilCheck_ptr, C.add_mk, C.sub_mk, C.mul_mk, C.eql_mk, C.neq_mk, C.lss_mk, C.leq_mk, C.gtr_mk, C.geq_mk, C.conv_mk, C.len_mk, C.ext_0, C.ext_1, C.ext3_0, C.ext3_1, C.ext3_2, C.guarded_yes, C.guarded_tf, C.guarded_ft, C.guarded_undef, Bool.not_true, Bool.not_false, Nat.zero_add, eq_self, decide_true, decide_false, p0]
            refine C.load1_of (v := .int .i64 p) hx3 rfl ?_
            by_cases p1 : p < 64
            · simp only [C.ite_true, C.ite_false, C.pick_true, C.pick_false, C.not_bool, C.field_ptr, C.nilCheck_ptr, C.add_mk, C.sub_mk, C.mul_mk, C.eql_mk, C.neq_mk, C.lss_mk, C.leq_mk, C.gtr_mk, C.geq_mk, C.conv_mk, C.len_mk, C.ext_0, C.ext_1, C.ext3_0, C.ext3_1, C.ext3_2, C.guarded_yes, C.guarded_tf, C.guarded_ft, C.guarded_undef, Bool.not_true, Bool.not_false, Nat.zero_add, eq_self, decide_true, decide_false, p1]
              by_cases o0 : (ownerOf l p).1 < 0
              · simp only [C.ite_true, C.ite_false, C.pick_true, C.pick_false, C.not_bool, C.field_ptr, C.nilCheck_ptr, C.add_mk, C.sub_mk, C.mul_mk, C.eql_mk, C.neq_mk, C.lss_mk, C.leq_mk, C.gtr_mk, C.geq_mk, C.conv_mk, C.len_mk, C.ext_0, C.ext_1, C.ext3_0, C.ext3_1, C.ext3_2, C.guarded_yes, C.guarded_tf, C.guarded_ft, C.guarded_undef, Bool.not_true, Bool.not_false, Nat.zero_add, eq_self, decide_true, decide_false, o0]
                exact step_yes hR3 hx3 ⟨t0, t1, by omega, p0, p1, o0⟩ fun mv' w' l' c' ms' hf' hR' => fin mv' w' l' c' ms' ((hf2.trans hf3).w.trans hf') hR'
              · simp only [C.ite_true, C.ite_false, C.pick_true, C.pick_false, C.not_bool, C.field_ptr, C.nilCheck_ptr, C.add_mk, C.sub_mk, C.mul_mk, C.eql_mk, C.neq_mk, C.lss_mk, C.leq_mk, C.gtr_mk, C.geq_mk, C.conv_mk, C.len_mk, C.ext_0, C.ext_1, C.ext3_0, C.ext3_1, C.ext3_2, C.guarded_yes, C.guarded_tf, C.guarded_ft, C.guarded_undef, Bool.not_true, Bool.not_false, Nat.zero_add, eq_self, decide_true, decide_false, o0]
                exact no fun hm => o0 hm.2.2.2.2.2
            · simp only [C.ite_true, C.ite_false, C.pick_true, C.pick_false, C.not_bool, C.field_ptr, C.nilCheck_ptr, C.add_mk, C.sub_mk, C.mul_mk, C.eql_mk, C.neq_mk, C.lss_mk, C.leq_mk, C.gtr_mk, C.geq_mk, C.conv_mk, C.len_mk, C.ext_0, C.ext_1, C.ext3_0, C.ext3_1, C.ext3_2, C.guarded_yes, C.guarded_tf, C.guarded_ft, C.guarded_undef, Bool.not_true, Bool.not_false, Nat.zero_add, eq_self, decide_true, decide_false, p1]
              exact no fun hm => p1 hm.2.2.2.2.1
          · simp only [C.ite_true, C.ite_false, C.pick_true, C.pick_false, C.not_bool, C.field_ptr, C.nilCheck_ptr, C.add_mk, C.sub_mk, C.mul_mk, C.eql_mk, C.neq_mk, C.lss_mk, C.leq_mk, C.gtr_mk, C.geq_mk, C.conv_mk, C.len_mk, C.ext_0, C.ext_1, C.ext3_0, C.ext3_1, C.ext3_2, C.guarded_yes, C.guarded_tf, C.guarded_ft, C.guarded_undef, Bool.not_true, Bool.not_false, Nat.zero_add, eq_self, decide_true, decide_false, p0]
            exact no fun hm => p0 hm.2.2.2.1
        · simp only [C.ite_true, C.ite_false, C.pick_true, C.pick_false, C.not_bool, C.field_ptr, C.nilCheck_ptr, C.add_mk, C.sub_mk, C.mul_mk, C.eql_mk, C.neq_mk, C.lss_mk, C.leq_mk, C.gtr_mk, C.geq_mk, C.conv_mk, C.len_mk, C.ext_0, C.ext_1, C.ext3_0, C.ext3_1, C.ext3_2, C.guarded_yes, C.guarded_tf, C.guarded_ft, C.guarded_undef, Bool.not_true, Bool.not_false, Nat.zero_add, eq_self, decide_true, decide_false, k0]
          exact no fun hm => by have := hm.2.2.1; have := csz_ge k; omega
      · simp only [C.ite_true, C.ite_false, C.pick_true, C.pick_false, C.not_bool, C.field_ptr, C.nilCheck_ptr, C.add_mk, C.sub_mk, C.mul_mk, C.eql_mk, C.neq_mk, C.lss_mk, C.leq_mk, C.gtr_mk, C.geq_mk, C.conv_mk, C.len_mk, C.ext_0, C.ext_1, C.ext3_0, C.ext3_1, C.ext3_2, C.guarded_yes, C.guarded_tf, C.guarded_ft, C.guarded_undef, Bool.not_true, Bool.not_false, Nat.zero_add, eq_self, decide_true, decide_false, t1]
        exact no fun hm => t1 hm.2.1
    · simp only [C.ite_true, C.ite_false, C.pick_true, C.pick_false, C.not_bool, C.field_ptr, C.nilCheck_ptr, C.add_mk, C.sub_mk, C.mul_mk, C.eql_mk, C.neq_mk, C.lss_mk, C.leq_mk, C.gtr_mk, C.geq_mk, C.conv_mk, C.len_mk, C.ext_0, C.ext_1, C.ext3_0, C.ext3_1, C.ext3_2, C.guarded_yes, C.guarded_tf, C.guarded_ft, C.guarded_undef, Bool.not_true, Bool.not_false, Nat.zero_add, eq_self, decide_true, decide_false, t0]
      exact no fun hm => t0 hm.1
  · simp only [C.ite_true, C.ite_false, C.pick_true, C.pick_false, C.not_bool, C.field_ptr, C.nilCheck_ptr, C.add_mk, C.sub_mk, C.mul_mk, C.eql_mk, C.neq_mk, C.lss_mk, C.leq_mk, C.gtr_mk, C.geq_mk, C.conv_mk, C.len_mk, C.ext_0, C.ext_1, C.ext3_0, C.ext3_1, C.ext3_2, C.guarded_yes, C.guarded_tf, C.guarded_ft, C.guarded_undef, Bool.not_true, Bool.not_false, Nat.zero_add, eq_self, decide_true, decide_false, c1]
    refine F52.k9.to ?_
    simp only [C.ite_true, C.ite_false, C.pick_true, C.pick_false, C.not_bool, C.field_ptr, C.nilCheck_ptr, C.add_mk, C.sub_mk, C.mul_mk, C.eql_mk, C.neq_mk, C.lss_mk, C.leq_mk, C.gtr_mk, C.geq_mk, C.conv_mk, C.len_mk, C.ext_0, C.ext_1, C.ext3_0, C.ext3_1, C.ext3_2, C.guarded_yes, C.guarded_tf, C.guarded_ft, C.guarded_undef, Bool.not_true, Bool.not_false, Nat.zero_add, eq_self, decide_true, decide_false]
    refine C.load1_of (v := .int .i64 kd) hx1 rfl ?_
    by_cases c2 : kd = 2
    · simp only [C.ite_true, C.ite_false, C.pick_true, C.pick_false, C.not_bool, C.field_ptr, C.nilCheck_ptr, C.add_mk, C.sub_mk, C.mul_mk, C.eql_mk, C.neq_mk, C.lss_mk, C.leq_mk, C.gtr_mk, C.geq_mk, C.conv_mk, C.len_mk, C.ext_0, C.ext_1, C.ext3_0, C.ext3_1, C.ext3_2, C.guarded_yes, C.guarded_tf, C.guarded_ft, C.guarded_undef, Bool.not_true, Bool.not_false, Nat.zero_add, eq_self, decide_true, decide_false, c2]
      refine C.load1_of (v := .int .i64 t) hx1 rfl (without_c hR1.own.rd (by omega) hR1.np fun ov gv w2 hf2 nO hO hG => ?_)
      have hx2 := hf2.at_ hx1 (by simp)
      have hR2 := hR1.keep0 hf2
      simp only [C.ite_true, C.ite_false, C.pick_true, C.pick_false, C.not_bool, C.field_ptr, C.nilCheck_ptr, C.add_mk, C.sub_mk, C.mul_mk, C.eql_mk, C.neq_mk, C.lss_mk, C.leq_mk, C.gtr_mk, C.geq_mk, C.conv_mk, C.len_mk, C.ext_0, C.ext_1, C.ext3_0, C.ext3_1, C.ext3_2, C.guarded_yes, C.guarded_tf, C.guarded_ft, C.guarded_undef, Bool.not_true, Bool.not_false, Nat.zero_add, eq_self, decide_true, decide_false]
      refine C.load1_of (v := .int .i64 t) hx2 rfl ?_
      refine Drop_c hR2.ca.is hR2.ca.good hR2.ca.kept fun dv w3 l3 out hf3 hi3 hg3 hk3 o3 hout hnd hnv ho3 => ?_
      obtain ⟨hs, he, _⟩ := hR2.sim.drop (n := n) hR2.ca.good o3 hout hnd
      rw [he] at ho3
      have hoff : ∀ {v : Value} {e : TypeId} {sz : Nat} {xs : List (List Value)}, OwnS w2 v e sz xs → OwnS w3 v e sz xs := fun ho => ho.keep' hf3 fun g hg e => by
        simp only [List.mem_singleton] at e
        subst e
        exact hR2.ca.is.off ho hg
      refine Ints_c ho3.rd (hoff hG).rd fun w4 hf4 => ?_
      rw [decide_eq_true rfl]
      have hC3 : Ca w3 b m n l3 c := ⟨hi3, hg3, hk3⟩
      exact fin ov w4 l3 c (outL ms t 0) ((hf2.w.trans hf3).trans hf4.w) ⟨hC3.keep hf4 (by simp) (by simp), (hoff hO).keep hf4 (by simp), hs⟩
    · simp only [C.ite_true, C.ite_false, C.pick_true, C.pick_false, C.not_bool, C.field_ptr, C.nilCheck_ptr, C.add_mk, C.sub_mk, C.mul_mk, C.eql_mk, C.neq_mk, C.lss_mk, C.leq_mk, C.gtr_mk, C.geq_mk, C.conv_mk, C.len_mk, C.ext_0, C.ext_1, C.ext3_0, C.ext3_1, C.ext3_2, C.guarded_yes, C.guarded_tf, C.guarded_ft, C.guarded_undef, Bool.not_true, Bool.not_false, Nat.zero_add, eq_self, decide_true, decide_false, c2]
      refine F52.k12.to ?_
      simp only [C.ite_true, C.ite_false, C.pick_true, C.pick_false, C.not_bool, C.field_ptr, C.nilCheck_ptr, C.add_mk, C.sub_mk, C.mul_mk, C.eql_mk, C.neq_mk, C.lss_mk, C.leq_mk, C.gtr_mk, C.geq_mk, C.conv_mk, C.len_mk, C.ext_0, C.ext_1, C.ext3_0, C.ext3_1, C.ext3_2, C.guarded_yes, C.guarded_tf, C.guarded_ft, C.guarded_undef, Bool.not_true, Bool.not_false, Nat.zero_add, eq_self, decide_true, decide_false]
      refine C.load1_of (v := .int .i64 p) hx1 rfl (Owner_c hR1.ca.is hR1.ca.good fun w2 hf2 => ?_)
      have hx2 := hf2.at_ hx1 (by simp)
      have hR2 := hR1.keep0 hf2
      simp only [C.ite_true, C.ite_false, C.pick_true, C.pick_false, C.not_bool, C.field_ptr, C.nilCheck_ptr, C.add_mk, C.sub_mk, C.mul_mk, C.eql_mk, C.neq_mk, C.lss_mk, C.leq_mk, C.gtr_mk, C.geq_mk, C.conv_mk, C.len_mk, C.ext_0, C.ext_1, C.ext3_0, C.ext3_1, C.ext3_2, C.guarded_yes, C.guarded_tf, C.guarded_ft, C.guarded_undef, Bool.not_true, Bool.not_false, Nat.zero_add, eq_self, decide_true, decide_false]
      refine C.load1_of (v := .int .i64 p) hx2 rfl (owner96_c hR2.own.rd (by omega) fun w3 hf3 => ?_)
      have hx3 := hf3.at_ hx2 (by simp)
      have hR3 := hR2.keep0 hf3
      have eo : ownL ms p = ownerOf l p := hR.sim.own (n := n) hR.ca.good p
      rw [eo]
      simp only [C.ite_true, C.ite_false, C.pick_true, C.pick_false, C.not_bool, C.field_ptr, C.nilCheck_ptr, C.add_mk, C.sub_mk, C.mul_mk, C.eql_mk, C.neq_mk, C.lss_mk, C.leq_mk, C.gtr_mk, C.geq_mk, C.conv_mk, C.len_mk, C.ext_0, C.ext_1, C.ext3_0, C.ext3_1, C.ext3_2, C.guarded_yes, C.guarded_tf, C.guarded_ft, C.guarded_undef, Bool.not_true, Bool.not_false, Nat.zero_add, eq_self, decide_true, decide_false]
      refine C.draw_of (fun w' => w'.heap[x7]? = some (.cells #[.int .i64 kd, .int .i64 t, .int .i64 k, .int .i64 p] 33 (0, 0))) fun w4 hf4 _ => ⟨hf4.at_ hx3 (by simp), ?_⟩
      have hx4 := hf4.at_ hx3 (by simp)
      have hR4 := hR3.keep0 hf4
      try simp only [C.ite_true, C.ite_false, C.pick_true, C.pick_false, C.not_bool, C.field_ptr, C.nilCheck_ptr, C.add_mk, C.sub_mk, C.mul_mk, C.eql_mk, C.neq_mk, C.lss_mk, C.leq_mk, C.gtr_mk, C.geq_mk, C.conv_mk, C.len_mk, C.ext_0, C.ext_1, C.ext3_0, C.ext3_1, C.ext3_2, C.guarded_yes, C.guarded_tf, C.guarded_ft, C.guarded_undef, Bool.not_true, Bool.not_false, Nat.zero_add, eq_self, decide_true, decide_false]
      refine C.load1S_of (v := .int .i64 t) (fun w' hw => ⟨_, _, _, hw, rfl⟩) (C.load1S_of (v := .int .i64 k) (fun w' hw => ⟨_, _, _, hw, rfl⟩) (C.load1S_of (v := .int .i64 t) (fun w' hw => ⟨_, _, _, hw, rfl⟩) (C.load1S_of (v := .int .i64 k) (fun w' hw => ⟨_, _, _, hw, rfl⟩) ?_)))
      refine ⟨Page_c hR4.ca.is ⟨hx4, page99_c hR4.own.rd (by omega) ⟨hx4, ?_⟩, trivial⟩, trivial⟩
      rw [hR.sim.page hR.ca.kept (t, k)]
      simp only [C.ite_true, C.ite_false, C.pick_true, C.pick_false, C.not_bool, C.field_ptr, C.nilCheck_ptr, C.add_mk, C.sub_mk, C.mul_mk, C.eql_mk, C.neq_mk, C.lss_mk, C.leq_mk, C.gtr_mk, C.geq_mk, C.conv_mk, C.len_mk, C.ext_0, C.ext_1, C.ext3_0, C.ext3_1, C.ext3_2, C.guarded_yes, C.guarded_tf, C.guarded_ft, C.guarded_undef, Bool.not_true, Bool.not_false, Nat.zero_add, eq_self, decide_true, decide_false]
      exact fin mv w4 l c ms ((hf2.trans (hf3.trans hf4)).w) hR4
end
end Go.Proofs.YtfdpmgddlaamcaaV
