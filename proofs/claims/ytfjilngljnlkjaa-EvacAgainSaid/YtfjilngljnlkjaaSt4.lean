/- Sorting that keeps the order of equals, by the library: merging; the whole. -/
import Derived.Test.YtfjilngljnlkjaaSt3
namespace Go.Proofs.YtfjilngljnlkjaaV
open Go Go.Proofs Go.RowKit
set_option linter.unusedVariables false
set_option linter.unusedSimpArgs false
set_option maxRecDepth 10000
section
variable {P : Program} {w : World} {t : TypeId}
theorem shrU_run (x y : Operand) (a : Int) : (do eqGuard .shr t x y (.int .u64 a) (.int .u64 1); binOp .shr t (.int .u64 a) (.int .u64 1) : Sem Value).run P w = .ok (.int .u64 (a / 2)) w := by
  simp only [Sem.run_bind, run_eqGuard_int, Result.andThen_ok]
  show (Op.shift .shr .u64 a .u64 1).run P w = _
  have : a.fdiv 2 = a / 2 := by rw [Int.fdiv_eq_ediv_of_nonneg _ (by decide)]
  simp [Op.shift, IntKind.bits, this]
end
section
variable {K : VK} {w : World} {ser : Nat → Int} {f : Nat → Value} {nv cv : Value}
/-- Half of a sum, by way of a number without a sign. -/
theorem half_of {ty : TypeId} {ox oy : Operand} {F : VK} {x y : Nat} (hb : x + y ≤ 1000000) (hk : F (.int .i64 (((x + y) / 2 : Nat) : Int)) w) : C.int .add (.int .i64 (x : Int)) (.int .i64 (y : Int)) w fun s w1 => C.conv .u64 s w1 fun u w2 => C.bin Try.prog .shr ty ox oy u (.int .u64 1) w2 fun v w3 => C.conv .i64 v w3 F := by
  simp only [C.ite_true, C.ite_false, C.pick_true, C.pick_false, C.not_bool, C.field_ptr, C.nilCheck_ptr, C.add_mk, C.sub_mk, C.mul_mk, C.eql_mk, C.neq_mk, C.lss_mk, C.leq_mk, C.gtr_mk, C.geq_mk, C.conv_mk, C.len_mk, C.ext_0, C.ext_1, C.ext3_0, C.ext3_1, C.ext3_2, C.guarded_yes, C.guarded_tf, C.guarded_ft, C.guarded_undef, Bool.not_true, Bool.not_false, Nat.zero_add, eq_self, decide_true, decide_false]
  rw [wrap64_id (n := (x : Int) + (y : Int)) (by omega), wrapu64_id (n := (x : Int) + (y : Int)) (by omega)]
  refine ⟨_, shrU_run _ _ _, ?_⟩
  simp only [C.ite_true, C.ite_false, C.pick_true, C.pick_false, C.not_bool, C.field_ptr, C.nilCheck_ptr, C.add_mk, C.sub_mk, C.mul_mk, C.eql_mk, C.neq_mk, C.lss_mk, C.leq_mk, C.gtr_mk, C.geq_mk, C.conv_mk, C.len_mk, C.ext_0, C.ext_1, C.ext3_0, C.ext3_1, C.ext3_2, C.guarded_yes, C.guarded_tf, C.guarded_ft, C.guarded_undef, Bool.not_true, Bool.not_false, Nat.zero_add, eq_self, decide_true, decide_false]
  rw [wrap64_id (n := ((x : Int) + (y : Int)) / 2) (by omega), show ((x : Int) + (y : Int)) / 2 = (((x + y) / 2 : Nat) : Int) by omega]
  exact hk
/-! ### 1. One element and a list -/
theorem sm_right (hC : CmpOk ser f cv) {W0 : World} {X Y V : List Nat} {u a p : Nat} (hX : X.length = a) (hp : p ≤ V.length) (hb : a + 1 + V.length ≤ 100000) (h : ∀ w', Fr (blkS nv) W0 w' → OwnS w' nv 59 2 (RW ser f (X ++ (V.take p ++ (u :: (V.drop p ++ Y))))) → K (.tuple #[]) w') :
    ∀ (d : Nat) (k : Nat) (w : World), p = k + d → Fr (blkS nv) W0 w → OwnS w nv 59 2 (RW ser f (X ++ (V.take k ++ (u :: (V.drop k ++ Y))))) → F84.l9 K nv (.int .i64 ((a + 1 + p : Nat) : Int)) (.int .i64 ((a + k : Nat) : Int)) w := by
  intro d
  induction d with
  | zero =>
    intro k w hk hfr ho
    have e : k = p := by omega
    subst e
    refine F84.l9.to ?_
    simp only [C.ite_true, C.ite_false, C.pick_true, C.pick_false, C.not_bool, C.field_ptr, C.nilCheck_ptr, C.add_mk, C.sub_mk, C.mul_mk, C.eql_mk, C.neq_mk, C.lss_mk, C.leq_mk, C.gtr_mk, C.geq_mk, C.conv_mk, C.len_mk, C.ext_0, C.ext_1, C.ext3_0, C.ext3_1, C.ext3_2, C.guarded_yes, C.guarded_tf, C.guarded_ft, C.guarded_undef, Bool.not_true, Bool.not_false, Nat.zero_add, eq_self, decide_true, decide_false]
    rw [wrap64_id (n := ((a + 1 + k : Nat) : Int) - 1) (by omega), decide_eq_false (show ¬ (((a + k : Nat) : Int) < ((a + 1 + k : Nat) : Int) - 1) by omega)]
    simp only [C.ite_true, C.ite_false, C.pick_true, C.pick_false, C.not_bool, C.field_ptr, C.nilCheck_ptr, C.add_mk, C.sub_mk, C.mul_mk, C.eql_mk, C.neq_mk, C.lss_mk, C.leq_mk, C.gtr_mk, C.geq_mk, C.conv_mk, C.len_mk, C.ext_0, C.ext_1, C.ext3_0, C.ext3_1, C.ext3_2, C.guarded_yes, C.guarded_tf, C.guarded_ft, C.guarded_undef, Bool.not_true, Bool.not_false, Nat.zero_add, eq_self, decide_true, decide_false]
    exact h w hfr ho
  | succ d ih =>
    intro k w hk hfr ho
    have kl : k < V.length := by omega
    refine F84.l9.to ?_
    simp only [C.ite_true, C.ite_false, C.pick_true, C.pick_false, C.not_bool, C.field_ptr, C.nilCheck_ptr, C.add_mk, C.sub_mk, C.mul_mk, C.eql_mk, C.neq_mk, C.lss_mk, C.leq_mk, C.gtr_mk, C.geq_mk, C.conv_mk, C.len_mk, C.ext_0, C.ext_1, C.ext3_0, C.ext3_1, C.ext3_2, C.guarded_yes, C.guarded_tf, C.guarded_ft, C.guarded_undef, Bool.not_true, Bool.not_false, Nat.zero_add, eq_self, decide_true, decide_false]
    rw [wrap64_id (n := ((a + 1 + p : Nat) : Int) - 1) (by omega), decide_eq_true (show (((a + k : Nat) : Int) < ((a + 1 + p : Nat) : Int) - 1) by omega)]
    simp only [C.ite_true, C.ite_false, C.pick_true, C.pick_false, C.not_bool, C.field_ptr, C.nilCheck_ptr, C.add_mk, C.sub_mk, C.mul_mk, C.eql_mk, C.neq_mk, C.lss_mk, C.leq_mk, C.gtr_mk, C.geq_mk, C.conv_mk, C.len_mk, C.ext_0, C.ext_1, C.ext3_0, C.ext3_1, C.ext3_2, C.guarded_yes, C.guarded_tf, C.guarded_ft, C.guarded_undef, Bool.not_true, Bool.not_false, Nat.zero_add, eq_self, decide_true, decide_false]
    refine F84.k11.to (C.draw_of (fun _ => True) fun w1 hf1 he1 => ⟨trivial, ?_⟩)
    simp only [C.ite_true, C.ite_false, C.pick_true, C.pick_false, C.not_bool, C.field_ptr, C.nilCheck_ptr, C.add_mk, C.sub_mk, C.mul_mk, C.eql_mk, C.neq_mk, C.lss_mk, C.leq_mk, C.gtr_mk, C.geq_mk, C.conv_mk, C.len_mk, C.ext_0, C.ext_1, C.ext3_0, C.ext3_1, C.ext3_2, C.guarded_yes, C.guarded_tf, C.guarded_ft, C.guarded_undef, Bool.not_true, Bool.not_false, Nat.zero_add, eq_self, decide_true, decide_false, true_and, and_true]
    rw [wrap64_id (n := ((a + k : Nat) : Int) + 1) (by omega), show ((a + k : Nat) : Int) + 1 = ((a + k + 1 : Nat) : Int) by omega]
    have ed : V.drop k = V[k] :: V.drop (k + 1) := List.drop_eq_getElem_cons kl
    have et : V.take (k + 1) = V.take k ++ [V[k]] := by rw [List.take_add_one, List.getElem?_eq_getElem kl]; rfl
    have lA : (X ++ V.take k).length = a + k := by simp [hX]; omega
    have hA : X ++ (V.take k ++ (u :: (V.drop k ++ Y))) = (X ++ V.take k) ++ u :: ([] ++ V[k] :: (V.drop (k + 1) ++ Y)) := by rw [ed]; simp only [List.append_assoc, List.singleton_append, List.cons_append, List.nil_append]
    rw [hA] at ho
    have gU : ((X ++ V.take k) ++ u :: ([] ++ V[k] :: (V.drop (k + 1) ++ Y)))[a + k]? = some u := by rw [← lA, List.getElem?_append_right (Nat.le_refl _)]; simp
    have gV : ((X ++ V.take k) ++ u :: ([] ++ V[k] :: (V.drop (k + 1) ++ Y)))[a + k + 1]? = some V[k] := by
      rw [← lA, List.getElem?_append_right (by omega), show (X ++ V.take k).length + 1 - (X ++ V.take k).length = 1 by omega]
      rfl
    refine row_swap hC.one (ho.keep hf1 (by simp)) gV gU fun w2 hf2 ho2 => ?_
    have e2 : (((X ++ V.take k) ++ u :: ([] ++ V[k] :: (V.drop (k + 1) ++ Y))).set (a + k) V[k]).set (a + k + 1) u = X ++ (V.take (k + 1) ++ (u :: (V.drop (k + 1) ++ Y))) := by
      have := seg_swap (X := X ++ V.take k) (M := []) (Y := V.drop (k + 1) ++ Y) (p := u) (q := V[k])
      simp only [List.length_nil, Nat.add_zero] at this
      rw [lA] at this
      rw [this, et]
      simp only [List.append_assoc, List.singleton_append, List.cons_append, List.nil_append]
    rw [e2] at ho2
    refine F84.k10.to ?_
    simp only [C.ite_true, C.ite_false, C.pick_true, C.pick_false, C.not_bool, C.field_ptr, C.nilCheck_ptr, C.add_mk, C.sub_mk, C.mul_mk, C.eql_mk, C.neq_mk, C.lss_mk, C.leq_mk, C.gtr_mk, C.geq_mk, C.conv_mk, C.len_mk, C.ext_0, C.ext_1, C.ext3_0, C.ext3_1, C.ext3_2, C.guarded_yes, C.guarded_tf, C.guarded_ft, C.guarded_undef, Bool.not_true, Bool.not_false, Nat.zero_add, eq_self, decide_true, decide_false]
    rw [wrap64_id (n := ((a + k : Nat) : Int) + 1) (by omega), show ((a + k : Nat) : Int) + 1 = ((a + (k + 1) : Nat) : Int) by omega]
    exact ih (k + 1) w2 (by omega) (hfr.trans (hf1.w.trans hf2)) ho2
theorem sm_find1 (hC : CmpOk ser f cv) {W0 : World} {X Y V : List Nat} {u a : Nat} (hX : X.length = a) (hb : a + 1 + V.length ≤ 100000) (hV : SrtL ser V)
    (h : ∀ p w', Fr [] W0 w' → p ≤ V.length → (∀ k (h : k < V.length), k < p → ser V[k] < ser u) → (∀ k (h : k < V.length), p ≤ k → ser u ≤ ser V[k]) → F84.k8 K nv (.int .i64 (a : Int)) (.int .i64 ((a + 1 + p : Nat) : Int)) w') (ho0 : OwnS W0 nv 59 2 (RW ser f (X ++ (u :: (V ++ Y))))) :
    ∀ (d p q : Nat) (w : World), q ≤ p + d → p ≤ q → q ≤ V.length → (∀ k (h : k < V.length), k < p → ser V[k] < ser u) → (∀ k (h : k < V.length), q ≤ k → ser u ≤ ser V[k]) → Fr [] W0 w → F84.l3 K nv (.int .i64 (a : Int)) cv (.int .i64 ((a + 1 + p : Nat) : Int)) (.int .i64 ((a + 1 + q : Nat) : Int)) w := by
  have fin : ∀ (p q : Nat) (w : World), q = p → q ≤ V.length → (∀ k (h : k < V.length), k < p → ser V[k] < ser u) → (∀ k (h : k < V.length), q ≤ k → ser u ≤ ser V[k]) → Fr [] W0 w → F84.l3 K nv (.int .i64 (a : Int)) cv (.int .i64 ((a + 1 + p : Nat) : Int)) (.int .i64 ((a + 1 + q : Nat) : Int)) w := by
    intro p q w hpq hq h1 h2 hfr
    subst hpq
    refine F84.l3.to ?_
    simp only [C.ite_true, C.ite_false, C.pick_true, C.pick_false, C.not_bool, C.field_ptr, C.nilCheck_ptr, C.add_mk, C.sub_mk, C.mul_mk, C.eql_mk, C.neq_mk, C.lss_mk, C.leq_mk, C.gtr_mk, C.geq_mk, C.conv_mk, C.len_mk, C.ext_0, C.ext_1, C.ext3_0, C.ext3_1, C.ext3_2, C.guarded_yes, C.guarded_tf, C.guarded_ft, C.guarded_undef, Bool.not_true, Bool.not_false, Nat.zero_add, eq_self, decide_true, decide_false, show ¬ (((a + 1 + q : Nat) : Int) < ((a + 1 + q : Nat) : Int)) by omega]
    exact h q w hfr hq h1 h2
  intro d
  induction d with
  | zero => exact fun p q w hd hpq hq h1 h2 hfr => fin p q w (by omega) hq h1 h2 hfr
  | succ d ih =>
    intro p q w hd hpq hq h1 h2 hfr
    by_cases e : q = p
    · exact fin p q w e hq h1 h2 hfr
    refine F84.l3.to ?_
    simp only [C.ite_true, C.ite_false, C.pick_true, C.pick_false, C.not_bool, C.field_ptr, C.nilCheck_ptr, C.add_mk, C.sub_mk, C.mul_mk, C.eql_mk, C.neq_mk, C.lss_mk, C.leq_mk, C.gtr_mk, C.geq_mk, C.conv_mk, C.len_mk, C.ext_0, C.ext_1, C.ext3_0, C.ext3_1, C.ext3_2, C.guarded_yes, C.guarded_tf, C.guarded_ft, C.guarded_undef, Bool.not_true, Bool.not_false, Nat.zero_add, eq_self, decide_true, decide_false, show (((a + 1 + p : Nat) : Int) < ((a + 1 + q : Nat) : Int)) by omega]
    refine F84.k4.to (half_of (by omega) ?_)
    generalize hc : (p + q) / 2 = c
    have hcl : c < V.length := by omega
    have ec : (a + 1 + p + (a + 1 + q)) / 2 = a + 1 + c := by omega
    rw [ec]
    have ho := ho0.keep hfr (by simp)
    have gV : (X ++ (u :: (V ++ Y)))[a + 1 + c]? = some V[c] := by
      have := seg_get (X := X ++ [u]) (V := V) (Y := Y) hcl
      simp only [List.length_append, List.length_singleton, hX, List.append_assoc, List.singleton_append] at this
      exact this
    have gU : (X ++ (u :: (V ++ Y)))[a]? = some u := by rw [← hX]; simp
    refine C.draw_of (fun w' => OwnS w' nv 59 2 (RW ser f (X ++ (u :: (V ++ Y))))) fun w1 hf1 he1 => ⟨ho.keep hf1 (by simp), ?_⟩
    simp only [and_true]
    refine row_cmp hC (ho.keep hf1 (by simp)) gV gU fun w2 hf2 ho2 => ?_
    have f2 := hfr.trans (hf1.trans hf2)
    by_cases g : ser V[c] < ser u
    · simp only [C.ite_true, C.ite_false, C.pick_true, C.pick_false, C.not_bool, C.field_ptr, C.nilCheck_ptr, C.add_mk, C.sub_mk, C.mul_mk, C.eql_mk, C.neq_mk, C.lss_mk, C.leq_mk, C.gtr_mk, C.geq_mk, C.conv_mk, C.len_mk, C.ext_0, C.ext_1, C.ext3_0, C.ext3_1, C.ext3_2, C.guarded_yes, C.guarded_tf, C.guarded_ft, C.guarded_undef, Bool.not_true, Bool.not_false, Nat.zero_add, eq_self, decide_true, decide_false, (cmpI_lt _ _).2 g]
      rw [wrap64_id (n := ((a + 1 + c : Nat) : Int) + 1) (by omega), show ((a + 1 + c : Nat) : Int) + 1 = ((a + 1 + (c + 1) : Nat) : Int) by omega]
      refine ih (c + 1) q w2 (by omega) (by omega) hq (fun k hk hkc => ?_) h2 f2
      have := srt_get hV (i := k) (j := c) hk hcl (by omega)
      omega
    · simp only [C.ite_true, C.ite_false, C.pick_true, C.pick_false, C.not_bool, C.field_ptr, C.nilCheck_ptr, C.add_mk, C.sub_mk, C.mul_mk, C.eql_mk, C.neq_mk, C.lss_mk, C.leq_mk, C.gtr_mk, C.geq_mk, C.conv_mk, C.len_mk, C.ext_0, C.ext_1, C.ext3_0, C.ext3_1, C.ext3_2, C.guarded_yes, C.guarded_tf, C.guarded_ft, C.guarded_undef, Bool.not_true, Bool.not_false, Nat.zero_add, eq_self, decide_true, decide_false, show ¬ (cmpI (ser V[c]) (ser u) < 0) from fun h => g ((cmpI_lt _ _).1 h)]
      refine ih p c w2 (by omega) (by omega) (by omega) h1 (fun k hk hkc => ?_) f2
      have := srt_get hV (i := c) (j := k) hcl hk hkc
      omega
theorem sm_left (hC : CmpOk ser f cv) {W0 : World} {X Y U : List Nat} {v a p : Nat} (hX : X.length = a) (hp : p ≤ U.length) (hb : a + 1 + U.length ≤ 100000) (h : ∀ w', Fr (blkS nv) W0 w' → OwnS w' nv 59 2 (RW ser f (X ++ (U.take p ++ (v :: (U.drop p ++ Y))))) → K (.tuple #[]) w') :
    ∀ (d : Nat) (k : Nat) (w : World), k = p + d → k ≤ U.length → Fr (blkS nv) W0 w → OwnS w nv 59 2 (RW ser f (X ++ (U.take k ++ (v :: (U.drop k ++ Y))))) → F84.l21 K nv (.int .i64 ((a + p : Nat) : Int)) (.int .i64 ((a + k : Nat) : Int)) w := by
  intro d
  induction d with
  | zero =>
    intro k w hk hkl hfr ho
    have e : k = p := by omega
    subst e
    refine F84.l21.to ?_
    simp only [C.ite_true, C.ite_false, C.pick_true, C.pick_false, C.not_bool, C.field_ptr, C.nilCheck_ptr, C.add_mk, C.sub_mk, C.mul_mk, C.eql_mk, C.neq_mk, C.lss_mk, C.leq_mk, C.gtr_mk, C.geq_mk, C.conv_mk, C.len_mk, C.ext_0, C.ext_1, C.ext3_0, C.ext3_1, C.ext3_2, C.guarded_yes, C.guarded_tf, C.guarded_ft, C.guarded_undef, Bool.not_true, Bool.not_false, Nat.zero_add, eq_self, decide_true, decide_false, show ¬ (((a + k : Nat) : Int) > ((a + k : Nat) : Int)) by omega]
    exact h w hfr ho
  | succ d ih =>
    intro k w hk hkl hfr ho
    obtain ⟨q, rfl⟩ : ∃ q, k = q + 1 := ⟨k - 1, by omega⟩
    have ql : q < U.length := by omega
    refine F84.l21.to ?_
    simp only [C.ite_true, C.ite_false, C.pick_true, C.pick_false, C.not_bool, C.field_ptr, C.nilCheck_ptr, C.add_mk, C.sub_mk, C.mul_mk, C.eql_mk, C.neq_mk, C.lss_mk, C.leq_mk, C.gtr_mk, C.geq_mk, C.conv_mk, C.len_mk, C.ext_0, C.ext_1, C.ext3_0, C.ext3_1, C.ext3_2, C.guarded_yes, C.guarded_tf, C.guarded_ft, C.guarded_undef, Bool.not_true, Bool.not_false, Nat.zero_add, eq_self, decide_true, decide_false, show (((a + (q + 1) : Nat) : Int) > ((a + p : Nat) : Int)) by omega]
    refine F84.k23.to (C.draw_of (fun _ => True) fun w1 hf1 he1 => ⟨trivial, ?_⟩)
    simp only [C.ite_true, C.ite_false, C.pick_true, C.pick_false, C.not_bool, C.field_ptr, C.nilCheck_ptr, C.add_mk, C.sub_mk, C.mul_mk, C.eql_mk, C.neq_mk, C.lss_mk, C.leq_mk, C.gtr_mk, C.geq_mk, C.conv_mk, C.len_mk, C.ext_0, C.ext_1, C.ext3_0, C.ext3_1, C.ext3_2, C.guarded_yes, C.guarded_tf, C.guarded_ft, C.guarded_undef, Bool.not_true, Bool.not_false, Nat.zero_add, eq_self, decide_true, decide_false, true_and, and_true]
    rw [wrap64_id (n := ((a + (q + 1) : Nat) : Int) - 1) (by omega), show ((a + (q + 1) : Nat) : Int) - 1 = ((a + q : Nat) : Int) by omega, show ((a + (q + 1) : Nat) : Int) = ((a + q + 1 : Nat) : Int) by omega]
    have ed : U.drop q = U[q] :: U.drop (q + 1) := List.drop_eq_getElem_cons ql
    have et : U.take (q + 1) = U.take q ++ [U[q]] := by rw [List.take_add_one, List.getElem?_eq_getElem ql]; rfl
    have lA : (X ++ U.take q).length = a + q := by simp [hX]; omega
    have hA : X ++ (U.take (q + 1) ++ (v :: (U.drop (q + 1) ++ Y))) = (X ++ U.take q) ++ U[q] :: ([] ++ v :: (U.drop (q + 1) ++ Y)) := by rw [et]; simp only [List.append_assoc, List.singleton_append, List.cons_append, List.nil_append]
    rw [hA] at ho
    have gU : ((X ++ U.take q) ++ U[q] :: ([] ++ v :: (U.drop (q + 1) ++ Y)))[a + q]? = some U[q] := by rw [← lA, List.getElem?_append_right (Nat.le_refl _)]; simp
    have gV : ((X ++ U.take q) ++ U[q] :: ([] ++ v :: (U.drop (q + 1) ++ Y)))[a + q + 1]? = some v := by
      rw [← lA, List.getElem?_append_right (by omega), show (X ++ U.take q).length + 1 - (X ++ U.take q).length = 1 by omega]
      rfl
    refine row_swap hC.one (ho.keep hf1 (by simp)) gU gV fun w2 hf2 ho2 => ?_
    have e2 : (((X ++ U.take q) ++ U[q] :: ([] ++ v :: (U.drop (q + 1) ++ Y))).set (a + q + 1) U[q]).set (a + q) v = X ++ (U.take q ++ (v :: (U.drop q ++ Y))) := by
      have := seg_swap' (X := X ++ U.take q) (M := []) (Y := U.drop (q + 1) ++ Y) (p := U[q]) (q := v)
      simp only [List.length_nil, Nat.add_zero] at this
      rw [lA] at this
      rw [this, ed]
      simp only [List.append_assoc, List.singleton_append, List.cons_append, List.nil_append]
    rw [e2] at ho2
    refine F84.k22.to ?_
    simp only [C.ite_true, C.ite_false, C.pick_true, C.pick_false, C.not_bool, C.field_ptr, C.nilCheck_ptr, C.add_mk, C.sub_mk, C.mul_mk, C.eql_mk, C.neq_mk, C.lss_mk, C.leq_mk, C.gtr_mk, C.geq_mk, C.conv_mk, C.len_mk, C.ext_0, C.ext_1, C.ext3_0, C.ext3_1, C.ext3_2, C.guarded_yes, C.guarded_tf, C.guarded_ft, C.guarded_undef, Bool.not_true, Bool.not_false, Nat.zero_add, eq_self, decide_true, decide_false]
    rw [wrap64_id (n := ((a + q + 1 : Nat) : Int) - 1) (by omega), show ((a + q + 1 : Nat) : Int) - 1 = ((a + q : Nat) : Int) by omega]
    exact ih q w2 (by omega) (by omega) (hfr.trans (hf1.w.trans hf2)) ho2
theorem sm_find2 (hC : CmpOk ser f cv) {W0 : World} {X Y U : List Nat} {v a m : Nat} (hX : X.length = a) (hm : a + U.length = m) (hb : m + 1 ≤ 100000) (hU : SrtL ser U)
    (h : ∀ p w', Fr [] W0 w' → p ≤ U.length → (∀ k (h : k < U.length), k < p → ser U[k] ≤ ser v) → (∀ k (h : k < U.length), p ≤ k → ser v < ser U[k]) → F84.k20 K nv (.int .i64 (m : Int)) (.int .i64 ((a + p : Nat) : Int)) w') (ho0 : OwnS W0 nv 59 2 (RW ser f (X ++ (U ++ (v :: Y))))) :
    ∀ (d p q : Nat) (w : World), q ≤ p + d → p ≤ q → q ≤ U.length → (∀ k (h : k < U.length), k < p → ser U[k] ≤ ser v) → (∀ k (h : k < U.length), q ≤ k → ser v < ser U[k]) → Fr [] W0 w → F84.l15 K nv (.int .i64 (m : Int)) cv (.int .i64 ((a + p : Nat) : Int)) (.int .i64 ((a + q : Nat) : Int)) w := by
  have fin : ∀ (p q : Nat) (w : World), q = p → q ≤ U.length → (∀ k (h : k < U.length), k < p → ser U[k] ≤ ser v) → (∀ k (h : k < U.length), q ≤ k → ser v < ser U[k]) → Fr [] W0 w → F84.l15 K nv (.int .i64 (m : Int)) cv (.int .i64 ((a + p : Nat) : Int)) (.int .i64 ((a + q : Nat) : Int)) w := by
    intro p q w hpq hq h1 h2 hfr
    subst hpq
    refine F84.l15.to ?_
    simp only [C.ite_true, C.ite_false, C.pick_true, C.pick_false, C.not_bool, C.field_ptr, C.nilCheck_ptr, C.add_mk, C.sub_mk, C.mul_mk, C.eql_mk, C.neq_mk, C.lss_mk, C.leq_mk, C.gtr_mk, C.geq_mk, C.conv_mk, C.len_mk, C.ext_0, C.ext_1, C.ext3_0, C.ext3_1, C.ext3_2, C.guarded_yes, C.guarded_tf, C.guarded_ft, C.guarded_undef, Bool.not_true, Bool.not_false, Nat.zero_add, eq_self, decide_true, decide_false, show ¬ (((a + q : Nat) : Int) < ((a + q : Nat) : Int)) by omega]
    exact h q w hfr hq h1 h2
  intro d
  induction d with
  | zero => exact fun p q w hd hpq hq h1 h2 hfr => fin p q w (by omega) hq h1 h2 hfr
  | succ d ih =>
    intro p q w hd hpq hq h1 h2 hfr
    by_cases e : q = p
    · exact fin p q w e hq h1 h2 hfr
    refine F84.l15.to ?_
    simp only [C.ite_true, C.ite_false, C.pick_true, C.pick_false, C.not_bool, C.field_ptr, C.nilCheck_ptr, C.add_mk, C.sub_mk, C.mul_mk, C.eql_mk, C.neq_mk, C.lss_mk, C.leq_mk, C.gtr_mk, C.geq_mk, C.conv_mk, C.len_mk, C.ext_0, C.ext_1, C.ext3_0, C.ext3_1, C.ext3_2, C.guarded_yes, C.guarded_tf, C.guarded_ft, C.guarded_undef, Bool.not_true, Bool.not_false, Nat.zero_add, eq_self, decide_true, decide_false, show (((a + p : Nat) : Int) < ((a + q : Nat) : Int)) by omega]
    refine F84.k16.to (half_of (by omega) ?_)
    generalize hc : (p + q) / 2 = c
    have hcl : c < U.length := by omega
    have ec : (a + p + (a + q)) / 2 = a + c := by omega
    rw [ec]
    have ho := ho0.keep hfr (by simp)
    have gU : (X ++ (U ++ (v :: Y)))[a + c]? = some U[c] := by
      have := seg_get (X := X) (V := U) (Y := v :: Y) hcl
      rwa [hX] at this
    have gV : (X ++ (U ++ (v :: Y)))[m]? = some v := by
      rw [← List.append_assoc, ← hm, ← hX, ← List.length_append]
      simp
    refine C.draw_of (fun w' => OwnS w' nv 59 2 (RW ser f (X ++ (U ++ (v :: Y))))) fun w1 hf1 he1 => ⟨ho.keep hf1 (by simp), ?_⟩
    simp only [and_true]
    refine row_cmp hC (ho.keep hf1 (by simp)) gV gU fun w2 hf2 ho2 => ?_
    have f2 := hfr.trans (hf1.trans hf2)
    by_cases g : ser v < ser U[c]
    · simp only [C.ite_true, C.ite_false, C.pick_true, C.pick_false, C.not_bool, C.field_ptr, C.nilCheck_ptr, C.add_mk, C.sub_mk, C.mul_mk, C.eql_mk, C.neq_mk, C.lss_mk, C.leq_mk, C.gtr_mk, C.geq_mk, C.conv_mk, C.len_mk, C.ext_0, C.ext_1, C.ext3_0, C.ext3_1, C.ext3_2, C.guarded_yes, C.guarded_tf, C.guarded_ft, C.guarded_undef, Bool.not_true, Bool.not_false, Nat.zero_add, eq_self, decide_true, decide_false, (cmpI_lt _ _).2 g]
      refine ih p c w2 (by omega) (by omega) (by omega) h1 (fun k hk hkc => ?_) f2
      have := srt_get hU (i := c) (j := k) hcl hk hkc
      omega
    · simp only [C.ite_true, C.ite_false, C.pick_true, C.pick_false, C.not_bool, C.field_ptr, C.nilCheck_ptr, C.add_mk, C.sub_mk, C.mul_mk, C.eql_mk, C.neq_mk, C.lss_mk, C.leq_mk, C.gtr_mk, C.geq_mk, C.conv_mk, C.len_mk, C.ext_0, C.ext_1, C.ext3_0, C.ext3_1, C.ext3_2, C.guarded_yes, C.guarded_tf, C.guarded_ft, C.guarded_undef, Bool.not_true, Bool.not_false, Nat.zero_add, eq_self, decide_true, decide_false, show ¬ (cmpI (ser v) (ser U[c]) < 0) from fun h => g ((cmpI_lt _ _).1 h)]
      rw [wrap64_id (n := ((a + c : Nat) : Int) + 1) (by omega), show ((a + c : Nat) : Int) + 1 = ((a + (c + 1) : Nat) : Int) by omega]
      refine ih (c + 1) q w2 (by omega) (by omega) hq (fun k hk hkc => ?_) h2 f2
      have := srt_get hU (i := k) (j := c) hk hcl (by omega)
      omega
end
end Go.Proofs.YtfjilngljnlkjaaV
