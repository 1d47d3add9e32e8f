/- Going through a graph in depth, by the program: begin, step, from. -/
import Derived.Test.YtchonfdnghimdaaSc3
namespace Go.Proofs.YtchonfdnghimdaaV
open Go Go.Proofs Go.RowKit
set_option linter.unusedVariables false
set_option linter.unusedSimpArgs false
set_option maxRecDepth 10000
/-- A walk: its graph, and what was met. -/
structure WK (W0 w : World) (b : Nat) (nv mv : Value) (D : List Bool) : Prop where
  fr : Fr (blkS mv) W0 w
  hb : w.heap[b]? = some (.cells #[nv, mv] 43 (0, 0))
  fl : OwnS w mv 4 1 (boolC D)
theorem WK.keep {W0 w w' : World} {b : Nat} {nv mv : Value} {D : List Bool} (h : WK W0 w b nv mv D) (hf : Fr [] w w') : WK W0 w' b nv mv D := ⟨h.fr.trans hf.w, hf.at_ h.hb (by simp), h.fl.keep hf (by simp)⟩
/-- What was met, as flags. -/
def metL (n : Nat) (S : List Nat) : List Bool := (List.range n).map fun k => decide (k ∈ S)
theorem metL_len (n : Nat) (S : List Nat) : (metL n S).length = n := by simp [metL]
theorem metL_get {n : Nat} {S : List Nat} {k : Nat} (h : k < (metL n S).length) : (metL n S)[k] = decide (k ∈ S) := by simp [metL]
theorem metL_set {n k : Nat} {S T : List Nat} (hk : k < n) (hT : ∀ x, x ∈ T ↔ x ∈ S ∨ x = k) : (metL n S).set k true = metL n T := by
  apply List.ext_getElem
  · simp [metL]
  · intro i h1 h2
    rw [List.getElem_set]
    by_cases e : k = i
    · subst e
      rw [if_pos rfl, metL_get]
      simp [hT]
    · rw [if_neg e, metL_get, metL_get]
      congr 1
      have : i ≠ k := Ne.symm e
      simp [hT, this]
theorem metL_nil (n : Nat) : metL n [] = List.replicate n false := by
  apply List.ext_getElem <;> simp [metL]
theorem metL_perm {n : Nat} {S T : List Nat} (h : ∀ x, x ∈ S ↔ x ∈ T) : metL n S = metL n T := by
  unfold metL
  exact List.map_congr_left fun k _ => decide_eq_decide.2 (h k)
section
variable {K : VK} {w : World}
theorem bWk (A : Option Addr) (n c : Nat) (B : Option Addr) (m d : Nat) : (Instr.build 43 #[(0, .slice A n c), (1, .slice B m d)]).run Try.prog w = .ok (.agg #[.slice A n c, .slice B m d]) w := by kernel_rfl
theorem begin_c {nv rv : Value} {G : Gr} (hG : IsG w nv rv G) (h : ∀ b mv w', WK w w' b nv mv (metL G.n []) → w.heap.size ≤ b → NewS w mv → Fr [] w w' → K (.pointer (some ⟨b, 0, none⟩)) w') : C.call Try.prog 22 #[nv] w K := by
  have hfew := hG.few
  refine F22.sh (hG.len_next (flags_new (by omega) fun mv w1 hf1 hn1 ho1 => ?_))
  obtain ⟨A, c, B, d, rfl, rfl⟩ := hG.slices
  obtain ⟨M, e, em⟩ := ho1.len
  rw [boolC_len, List.length_replicate] at em
  subst em
  refine C.run_of (bWk _ _ _ _ _ _) (C.new_of fun b w2 hn2 => h b _ w2 ⟨(hf1.trans hn2.fr).w, hn2.at_, ?_⟩ ?_ hn1 (hf1.trans hn2.fr))
  · rw [metL_nil]
    exact ho1.keep hn2.fr (by simp)
  · have := hn2.is
    have := hf1.size
    omega
/-- The next edge that leads to what was not met. -/
def cand (G : Gr) (S : List Nat) (i q : Nat) : Prop := ∃ k : Nat, k < G.n ∧ k ∉ S ∧ (G.row i)[q]? = some (k : Int)
theorem step_c {W0 : World} {nv rv mv : Value} {G : Gr} {S : List Nat} {b i : Nat} (hG : IsG w nv rv G) (hW : WK W0 w b nv mv (metL G.n S)) (hi : i < G.n)
    (h1 : ∀ (q k : Nat), (hq : q < (G.row i).length) → (G.row i)[q] = (k : Int) → k < G.n → k ∉ S → (∀ p, p < q → ¬ cand G S i p) → K (.tuple #[.int .i64 (k : Int), .int .i64 ((q + 1 : Nat) : Int), .bool true]) w)
    (h0 : (∀ p, ¬ cand G S i p) → K (.tuple #[.int .i64 0, .int .i64 0, .bool false]) w) :
    ∀ (d q : Nat), (G.row i).length ≤ q + d → q ≤ (G.row i).length → (∀ p, p < q → ¬ cand G S i p) → F41.l2 K (.pointer (some ⟨b, 0, none⟩)) (.int .i64 (i : Int)) (.int .i64 (q : Int)) w := by
  have hle := row_len hG i
  have row : ∀ {G1 : VK}, (∀ v, RdS w v 1 (intC (G.row i)) → G1 v w) → C.nilCheck (.pointer (some ⟨b, 0, none⟩)) w fun x w1 => C.field 0 x w1 fun p w2 => C.load1 p w2 fun y w3 => C.idx 1 y (.int .i64 (i : Int)) w3 fun q w4 => C.load1 q w4 G1 := fun hk => by
    simp only [C.ite_true, C.ite_false, C.pick_true, C.pick_false, C.not_bool, C.field_ptr, C.nilCheck_ptr, C.add_mk, C.sub_mk, C.mul_mk, C.eql_mk, C.neq_mk, C.lss_mk, C.leq_mk, C.gtr_mk, C.geq_mk, C.conv_mk, C.len_mk, C.ext_0, C.ext_1, C.ext3_0, C.ext3_1, C.ext3_2, C.guarded_yes, C.guarded_tf, C.guarded_ft, C.guarded_undef, Bool.not_true, Bool.not_false, Nat.zero_add, eq_self, decide_true, decide_false]
    exact C.load1_of (v := nv) hW.hb rfl (hG.next.get hi fun v hv => hk v (by rw [row_get hi]; exact hv))
  have fin : ∀ q, q = (G.row i).length → (∀ p, p < q → ¬ cand G S i p) → F41.l2 K (.pointer (some ⟨b, 0, none⟩)) (.int .i64 (i : Int)) (.int .i64 (q : Int)) w := fun q hq hn => by
    refine F41.l2.to (row fun v hv => C.len_rd hv ?_)
    rw [intC_len]
    simp only [C.ite_true, C.ite_false, C.pick_true, C.pick_false, C.not_bool, C.field_ptr, C.nilCheck_ptr, C.add_mk, C.sub_mk, C.mul_mk, C.eql_mk, C.neq_mk, C.lss_mk, C.leq_mk, C.gtr_mk, C.geq_mk, C.conv_mk, C.len_mk, C.ext_0, C.ext_1, C.ext3_0, C.ext3_1, C.ext3_2, C.guarded_yes, C.guarded_tf, C.guarded_ft, C.guarded_undef, Bool.not_true, Bool.not_false, Nat.zero_add, eq_self, decide_true, decide_false, show ¬ ((q : Int) < ((G.row i).length : Int)) by omega]
    refine F41.k7.to (h0 fun p hp => ?_)
    by_cases c : p < q
    · exact hn p c hp
    · obtain ⟨k, _, _, e⟩ := hp
      rw [List.getElem?_eq_none (by omega)] at e
      cases e
  intro d
  induction d with
  | zero => exact fun q hd hq hn => fin q (by omega) hn
  | succ d ih =>
    intro q hd hq hn
    by_cases hend : q = (G.row i).length
    · exact fin q hend hn
    have ql : q < (G.row i).length := by omega
    refine F41.l2.to (row fun v hv => C.len_rd hv ?_)
    rw [intC_len]
    simp only [C.ite_true, C.ite_false, C.pick_true, C.pick_false, C.not_bool, C.field_ptr, C.nilCheck_ptr, C.add_mk, C.sub_mk, C.mul_mk, C.eql_mk, C.neq_mk, C.lss_mk, C.leq_mk, C.gtr_mk, C.geq_mk, C.conv_mk, C.len_mk, C.ext_0, C.ext_1, C.ext3_0, C.ext3_1, C.ext3_2, C.guarded_yes, C.guarded_tf, C.guarded_ft, C.guarded_undef, Bool.not_true, Bool.not_false, Nat.zero_add, eq_self, decide_true, decide_false, show ((q : Int) < ((G.row i).length : Int)) by omega]
    have nx : (¬ cand G S i q) → F41.k3 K (.pointer (some ⟨b, 0, none⟩)) (.int .i64 (i : Int)) (.int .i64 (q : Int)) w := fun hc => by
      refine F41.k3.to ?_
      simp only [C.ite_true, C.ite_false, C.pick_true, C.pick_false, C.not_bool, C.field_ptr, C.nilCheck_ptr, C.add_mk, C.sub_mk, C.mul_mk, C.eql_mk, C.neq_mk, C.lss_mk, C.leq_mk, C.gtr_mk, C.geq_mk, C.conv_mk, C.len_mk, C.ext_0, C.ext_1, C.ext3_0, C.ext3_1, C.ext3_2, C.guarded_yes, C.guarded_tf, C.guarded_ft, C.guarded_undef, Bool.not_true, Bool.not_false, Nat.zero_add, eq_self, decide_true, decide_false]
      rw [wrap64_id (n := (q : Int) + 1) (by omega), show (q : Int) + 1 = ((q + 1 : Nat) : Int) by omega]
      refine ih (q + 1) (by omega) (by omega) fun p hp => ?_
      by_cases e : p = q
      · subst e; exact hc
      · exact hn p (by omega)
    refine F41.k4.to (row fun v hv => C.idx_int hv ql fun g o cs e fz hg hc => C.load1_of hg hc ?_)
    by_cases hpos : (G.row i)[q] ≥ 0
    · obtain ⟨r, hr⟩ : ∃ r : Nat, (G.row i)[q] = (r : Int) := ⟨(G.row i)[q].toNat, by omega⟩
      simp only [C.ite_true, C.ite_false, C.pick_true, C.pick_false, C.not_bool, C.field_ptr, C.nilCheck_ptr, C.add_mk, C.sub_mk, C.mul_mk, C.eql_mk, C.neq_mk, C.lss_mk, C.leq_mk, C.gtr_mk, C.geq_mk, C.conv_mk, C.len_mk, C.ext_0, C.ext_1, C.ext3_0, C.ext3_1, C.ext3_2, C.guarded_yes, C.guarded_tf, C.guarded_ft, C.guarded_undef, Bool.not_true, Bool.not_false, Nat.zero_add, eq_self, decide_true, decide_false, hpos]
      refine C.load1_of (v := nv) hW.hb rfl (hG.len_next ?_)
      rw [hr]
      by_cases hrn : r < G.n
      · simp only [C.ite_true, C.ite_false, C.pick_true, C.pick_false, C.not_bool, C.field_ptr, C.nilCheck_ptr, C.add_mk, C.sub_mk, C.mul_mk, C.eql_mk, C.neq_mk, C.lss_mk, C.leq_mk, C.gtr_mk, C.geq_mk, C.conv_mk, C.len_mk, C.ext_0, C.ext_1, C.ext3_0, C.ext3_1, C.ext3_2, C.guarded_yes, C.guarded_tf, C.guarded_ft, C.guarded_undef, Bool.not_true, Bool.not_false, Nat.zero_add, eq_self, decide_true, decide_false, show ((r : Int) < (G.n : Int)) by omega]
        have hrd : r < (metL G.n S).length := by rw [metL_len]; exact hrn
        refine C.load1_of (v := mv) hW.hb rfl (C.idx_bool hW.fl.rd hrd ?_)
        rw [metL_get]
        by_cases hm : r ∈ S
        · simp only [C.ite_true, C.ite_false, C.pick_true, C.pick_false, C.not_bool, C.field_ptr, C.nilCheck_ptr, C.add_mk, C.sub_mk, C.mul_mk, C.eql_mk, C.neq_mk, C.lss_mk, C.leq_mk, C.gtr_mk, C.geq_mk, C.conv_mk, C.len_mk, C.ext_0, C.ext_1, C.ext3_0, C.ext3_1, C.ext3_2, C.guarded_yes, C.guarded_tf, C.guarded_ft, C.guarded_undef, Bool.not_true, Bool.not_false, Nat.zero_add, eq_self, decide_true, decide_false, hm]
          refine nx fun ⟨k, _, hk, e⟩ => hk ?_
          rw [List.getElem?_eq_getElem ql, hr] at e
          have e' : (r : Int) = (k : Int) := by simpa using e
          have : r = k := by omega
          exact this ▸ hm
        · simp only [C.ite_true, C.ite_false, C.pick_true, C.pick_false, C.not_bool, C.field_ptr, C.nilCheck_ptr, C.add_mk, C.sub_mk, C.mul_mk, C.eql_mk, C.neq_mk, C.lss_mk, C.leq_mk, C.gtr_mk, C.geq_mk, C.conv_mk, C.len_mk, C.ext_0, C.ext_1, C.ext3_0, C.ext3_1, C.ext3_2, C.guarded_yes, C.guarded_tf, C.guarded_ft, C.guarded_undef, Bool.not_true, Bool.not_false, Nat.zero_add, eq_self, decide_true, decide_false, hm]
          rw [wrap64_id (n := (q : Int) + 1) (by omega), show (q : Int) + 1 = ((q + 1 : Nat) : Int) by omega]
          exact h1 q r ql hr hrn hm hn
      · simp only [C.ite_true, C.ite_false, C.pick_true, C.pick_false, C.not_bool, C.field_ptr, C.nilCheck_ptr, C.add_mk, C.sub_mk, C.mul_mk, C.eql_mk, C.neq_mk, C.lss_mk, C.leq_mk, C.gtr_mk, C.geq_mk, C.conv_mk, C.len_mk, C.ext_0, C.ext_1, C.ext3_0, C.ext3_1, C.ext3_2, C.guarded_yes, C.guarded_tf, C.guarded_ft, C.guarded_undef, Bool.not_true, Bool.not_false, Nat.zero_add, eq_self, decide_true, decide_false, show ¬ ((r : Int) < (G.n : Int)) by omega]
        refine nx fun ⟨k, hk, _, e⟩ => hrn ?_
        rw [List.getElem?_eq_getElem ql, hr] at e
        have : (r : Int) = (k : Int) := by simpa using e
        omega
    · simp only [C.ite_true, C.ite_false, C.pick_true, C.pick_false, C.not_bool, C.field_ptr, C.nilCheck_ptr, C.add_mk, C.sub_mk, C.mul_mk, C.eql_mk, C.neq_mk, C.lss_mk, C.leq_mk, C.gtr_mk, C.geq_mk, C.conv_mk, C.len_mk, C.ext_0, C.ext_1, C.ext3_0, C.ext3_1, C.ext3_2, C.guarded_yes, C.guarded_tf, C.guarded_ft, C.guarded_undef, Bool.not_true, Bool.not_false, Nat.zero_add, eq_self, decide_true, decide_false, hpos]
      refine nx fun ⟨k, hk, _, e⟩ => hpos ?_
      rw [List.getElem?_eq_getElem ql] at e
      have : (G.row i)[q] = (k : Int) := by simpa using e
      omega
end
end Go.Proofs.YtchonfdnghimdaaV
