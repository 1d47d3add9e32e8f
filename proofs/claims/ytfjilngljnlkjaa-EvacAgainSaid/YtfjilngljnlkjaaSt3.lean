/- Sorting that keeps the order of equals, by the library: insertion, merging. -/
import Derived.Test.YtfjilngljnlkjaaSt2
namespace Go.Proofs.YtfjilngljnlkjaaV
open Go Go.Proofs Go.RowKit
set_option linter.unusedVariables false
set_option linter.unusedSimpArgs false
set_option maxRecDepth 10000
/-- How two elements are compared. -/
structure CmpOk (ser : Nat → Int) (f : Nat → Value) (cv : Value) : Prop where
  one : ∀ i, (f i).oneCell' = true ∧ (f i).cells = #[f i]
  pl : ∀ l a b, cv ≠ .func (.yield l) a b
  cmp : ∀ i j w' (K' : VK), (∀ w'', Fr [] w' w'' → K' (.int .i64 (cmpI (ser i) (ser j))) w'') → vcCall Try.prog cv [.agg #[.int .i64 (ser i), f i], .agg #[.int .i64 (ser j), f j]] w' K'
section
variable {K : VK} {w : World} {ser : Nat → Int} {f : Nat → Value} {nv cv : Value}
theorem row_cmp (hC : CmpOk ser f cv) {A : List Nat} {P Q i j : Nat} {G : VK} (ho : OwnS w nv 59 2 (RW ser f A)) (hP : A[P]? = some i) (hQ : A[Q]? = some j) (hk : ∀ w', Fr [] w w' → OwnS w' nv 59 2 (RW ser f A) → G (.int .i64 (cmpI (ser i) (ser j))) w') :
    C.idx 2 nv (.int .i64 (P : Int)) w fun pP w6 => C.idx 2 nv (.int .i64 (Q : Int)) w6 fun pQ w7 => C.loadAS (fun w' => OwnS w' nv 59 2 (RW ser f A)) 2 pP w7 fun x w8 => C.loadAS (fun w' => OwnS w' nv 59 2 (RW ser f A)) 2 pQ w8 fun y w9 =>
      C.plainFn cv (vcCall Try.prog cv [x, y] w9 fun z w10 => (OwnS w10 nv 59 2 (RW ser f A) ∧ G z w10)) := by
  refine C.idx_rdS (S := fun w' => OwnS w' nv 59 2 (RW ser f A)) (fun w' hw => hw.rd) ho (by omega) (by rw [Int.toNat_natCast]; exact RW_get hP) fun g o hl hs => ?_
  refine C.idx_rdS (S := fun w' => OwnS w' nv 59 2 (RW ser f A)) (fun w' hw => hw.rd) ho (by omega) (by rw [Int.toNat_natCast]; exact RW_get hQ) fun g' o' hl' hs' => ?_
  refine C.loadAS_cells (x := rw2 ser f i) hl (by omega) hs (C.loadAS_cells (x := rw2 ser f j) hl' (by omega) hs' ⟨hC.pl, ?_⟩)
  exact hC.cmp i j w _ fun w'' hf => ⟨ho.keep hf (by simp), hk w'' hf (ho.keep hf (by simp))⟩
/-! ### 1. Insertion -/
theorem ins_inner (hC : CmpOk ser f cv) {W0 : World} {X R Y S : List Nat} {v : Nat} {a : Nat} {y2 : Value} {i : Nat} (hX : X.length = a) (hb : a + S.length ≤ 100000) (hS : SrtL ser S) (hL : Low S [v])
    (h : ∀ W w', Fr (blkS nv) W0 w' → W.Perm (S ++ [v]) → SrtL ser W → OwnS w' nv 59 2 (RW ser f (X ++ (W ++ (R ++ Y)))) → F83.k2 K nv (.int .i64 (a : Int)) y2 cv (.int .i64 (i : Int)) w') :
    ∀ (d : Nat) (S1 S2 : List Nat) (w : World), S1.length = d → S = S1 ++ S2 → (∀ x ∈ S2, ser v < ser x) → Fr (blkS nv) W0 w → OwnS w nv 59 2 (RW ser f (X ++ (S1 ++ (v :: S2 ++ (R ++ Y))))) →
      F83.l4 K nv (.int .i64 (a : Int)) y2 cv (.int .i64 (i : Int)) (.int .i64 ((a + S1.length : Nat) : Int)) w := by
  have out : ∀ (S1 S2 : List Nat) (w : World), S = S1 ++ S2 → (∀ x ∈ S2, ser v < ser x) → (∀ x ∈ S1, ser x ≤ ser v) → Fr (blkS nv) W0 w → OwnS w nv 59 2 (RW ser f (X ++ (S1 ++ (v :: S2 ++ (R ++ Y))))) → F83.k2 K nv (.int .i64 (a : Int)) y2 cv (.int .i64 (i : Int)) w := by
    intro S1 S2 w hS12 h2 h1 hfr ho
    have hi := ins_high (v := v) (U := S) hS hL (i := S1.length) (by rw [hS12]; simp) (fun k hk hki => h1 _ (by simp only [hS12]; rw [List.getElem_append_left hki]; exact List.getElem_mem _)) (fun k hk hki => h2 _ (by simp only [hS12]; rw [List.getElem_append_right hki]; exact List.getElem_mem _))
    have e1 : S.take S1.length = S1 := by rw [hS12]; simp
    have e2 : S.drop S1.length = S2 := by rw [hS12]; simp
    rw [e1, e2] at hi
    exact h _ w hfr hi.2 hi.1 (by simpa using ho)
  intro d
  induction d with
  | zero =>
    intro S1 S2 w hd hS12 h2 hfr ho
    have e : S1 = [] := List.eq_nil_of_length_eq_zero hd
    subst e
    refine F83.l4.to (C.draw_of (fun _ => True) fun w1 hf1 he1 => ⟨trivial, ?_⟩)
    simp only [C.ite_true, C.ite_false, C.pick_true, C.pick_false, C.not_bool, C.field_ptr, C.nilCheck_ptr, C.add_mk, C.sub_mk, C.mul_mk, C.eql_mk, C.neq_mk, C.lss_mk, C.leq_mk, C.gtr_mk, C.geq_mk, C.conv_mk, C.len_mk, C.ext_0, C.ext_1, C.ext3_0, C.ext3_1, C.ext3_2, C.guarded_yes, C.guarded_tf, C.guarded_ft, C.guarded_undef, Bool.not_true, Bool.not_false, Nat.zero_add, eq_self, decide_true, decide_false, List.length_nil, Nat.add_zero, show ¬ ((a : Int) > (a : Int)) by omega, true_and, and_true]
    exact ⟨(fun _ _ _ h => by cases h), out [] S2 w1 hS12 h2 (fun x hx => by cases hx) (hfr.trans hf1.w) (ho.keep hf1 (by simp))⟩
  | succ d ih =>
    intro S1 S2 w hd hS12 h2 hfr ho
    rcases List.eq_nil_or_concat S1 with e | ⟨T, u, e⟩
    · subst e; cases hd
    · subst e
      have hTd : T.length = d := by simpa using hd
      have hSl : S.length = T.length + 1 + S2.length := by rw [hS12]; simp; omega
      have lA : (X ++ T).length = a + T.length := by simp [hX]
      have hA : X ++ ((T ++ [u]) ++ (v :: S2 ++ (R ++ Y))) = (X ++ T) ++ u :: ([] ++ v :: (S2 ++ (R ++ Y))) := by simp
      have hA' : X ++ (T.concat u ++ (v :: S2 ++ (R ++ Y))) = (X ++ T) ++ u :: ([] ++ v :: (S2 ++ (R ++ Y))) := by simp
      rw [hA'] at ho
      have gU : ((X ++ T) ++ u :: ([] ++ v :: (S2 ++ (R ++ Y))))[a + T.length]? = some u := by rw [← lA]; simp
      have gV : ((X ++ T) ++ u :: ([] ++ v :: (S2 ++ (R ++ Y))))[a + T.length + 1]? = some v := by
        rw [← lA, List.getElem?_append_right (by omega), show (X ++ T).length + 1 - (X ++ T).length = 1 by omega]
        rfl
      have lc : (T.concat u).length = T.length + 1 := by simp
      refine F83.l4.to (C.draw_of (fun w' => OwnS w' nv 59 2 (RW ser f ((X ++ T) ++ u :: ([] ++ v :: (S2 ++ (R ++ Y)))))) fun w1 hf1 he1 => ⟨ho.keep hf1 (by simp), ?_⟩)
      have ho1 := ho.keep hf1 (by simp)
      simp only [C.ite_true, C.ite_false, C.pick_true, C.pick_false, C.not_bool, C.field_ptr, C.nilCheck_ptr, C.add_mk, C.sub_mk, C.mul_mk, C.eql_mk, C.neq_mk, C.lss_mk, C.leq_mk, C.gtr_mk, C.geq_mk, C.conv_mk, C.len_mk, C.ext_0, C.ext_1, C.ext3_0, C.ext3_1, C.ext3_2, C.guarded_yes, C.guarded_tf, C.guarded_ft, C.guarded_undef, Bool.not_true, Bool.not_false, Nat.zero_add, eq_self, decide_true, decide_false, lc, show (((a + (T.length + 1) : Nat) : Int) > (a : Int)) by omega, and_true]
      rw [wrap64_id (n := ((a + (T.length + 1) : Nat) : Int) - 1) (by omega), show ((a + (T.length + 1) : Nat) : Int) - 1 = ((a + T.length : Nat) : Int) by omega, show ((a + (T.length + 1) : Nat) : Int) = ((a + T.length + 1 : Nat) : Int) by omega]
      refine row_cmp hC ho1 gV gU fun w2 hf2 ho2 => ?_
      by_cases c : ser v < ser u
      · simp only [C.ite_true, C.ite_false, C.pick_true, C.pick_false, C.not_bool, C.field_ptr, C.nilCheck_ptr, C.add_mk, C.sub_mk, C.mul_mk, C.eql_mk, C.neq_mk, C.lss_mk, C.leq_mk, C.gtr_mk, C.geq_mk, C.conv_mk, C.len_mk, C.ext_0, C.ext_1, C.ext3_0, C.ext3_1, C.ext3_2, C.guarded_yes, C.guarded_tf, C.guarded_ft, C.guarded_undef, Bool.not_true, Bool.not_false, Nat.zero_add, eq_self, decide_true, decide_false, (cmpI_lt _ _).2 c]
        refine F83.k6.to (C.draw_of (fun _ => True) fun w3 hf3 he3 => ⟨trivial, ?_⟩)
        simp only [C.ite_true, C.ite_false, C.pick_true, C.pick_false, C.not_bool, C.field_ptr, C.nilCheck_ptr, C.add_mk, C.sub_mk, C.mul_mk, C.eql_mk, C.neq_mk, C.lss_mk, C.leq_mk, C.gtr_mk, C.geq_mk, C.conv_mk, C.len_mk, C.ext_0, C.ext_1, C.ext3_0, C.ext3_1, C.ext3_2, C.guarded_yes, C.guarded_tf, C.guarded_ft, C.guarded_undef, Bool.not_true, Bool.not_false, Nat.zero_add, eq_self, decide_true, decide_false, true_and, and_true]
        rw [wrap64_id (n := ((a + T.length + 1 : Nat) : Int) - 1) (by omega), show ((a + T.length + 1 : Nat) : Int) - 1 = ((a + T.length : Nat) : Int) by omega]
        refine row_swap hC.one (ho2.keep hf3 (by simp)) gU gV fun w4 hf4 ho4 => ?_
        have e2 : (((X ++ T) ++ u :: ([] ++ v :: (S2 ++ (R ++ Y)))).set (a + T.length + 1) u).set (a + T.length) v = X ++ (T ++ (v :: (u :: S2) ++ (R ++ Y))) := by
          have := seg_swap' (X := X ++ T) (M := []) (Y := S2 ++ (R ++ Y)) (p := u) (q := v)
          simp only [List.length_nil, Nat.add_zero] at this
          rw [lA] at this
          rw [this]
          simp
        rw [e2] at ho4
        refine F83.k5.to ?_
        simp only [C.ite_true, C.ite_false, C.pick_true, C.pick_false, C.not_bool, C.field_ptr, C.nilCheck_ptr, C.add_mk, C.sub_mk, C.mul_mk, C.eql_mk, C.neq_mk, C.lss_mk, C.leq_mk, C.gtr_mk, C.geq_mk, C.conv_mk, C.len_mk, C.ext_0, C.ext_1, C.ext3_0, C.ext3_1, C.ext3_2, C.guarded_yes, C.guarded_tf, C.guarded_ft, C.guarded_undef, Bool.not_true, Bool.not_false, Nat.zero_add, eq_self, decide_true, decide_false]
        rw [wrap64_id (n := ((a + T.length + 1 : Nat) : Int) - 1) (by omega), show ((a + T.length + 1 : Nat) : Int) - 1 = ((a + T.length : Nat) : Int) by omega]
        refine ih T (u :: S2) w4 hTd (by rw [hS12]; simp) (fun x hx => ?_) (hfr.trans (((hf1.trans hf2).trans hf3).w.trans hf4)) ho4
        rcases List.mem_cons.1 hx with d | d
        · subst d; exact c
        · exact h2 x d
      · simp only [C.ite_true, C.ite_false, C.pick_true, C.pick_false, C.not_bool, C.field_ptr, C.nilCheck_ptr, C.add_mk, C.sub_mk, C.mul_mk, C.eql_mk, C.neq_mk, C.lss_mk, C.leq_mk, C.gtr_mk, C.geq_mk, C.conv_mk, C.len_mk, C.ext_0, C.ext_1, C.ext3_0, C.ext3_1, C.ext3_2, C.guarded_yes, C.guarded_tf, C.guarded_ft, C.guarded_undef, Bool.not_true, Bool.not_false, Nat.zero_add, eq_self, decide_true, decide_false, show ¬ (cmpI (ser v) (ser u) < 0) from fun h => c ((cmpI_lt _ _).1 h)]
        refine out (T ++ [u]) S2 w2 (by rw [hS12]; simp) h2 (fun x hx => ?_) (hfr.trans (hf1.trans hf2).w) (by rw [hA]; exact ho2)
        have hst : SrtL ser (T ++ [u]) := by
          have : SrtL ser (T ++ [u] ++ S2) := by
            have e : T ++ [u] ++ S2 = S := by rw [hS12]; simp
            rw [e]; exact hS
          exact (List.pairwise_append.1 this).1
        rcases List.mem_append.1 hx with d | d
        · have := lexS_le ((List.pairwise_append.1 hst).2.2 x d u (by simp))
          omega
        · simp at d; subst d; omega
theorem ins_outer (hC : CmpOk ser f cv) {W0 : World} {X Y : List Nat} {a b : Nat} (hX : X.length = a) (hb : b ≤ 100000) {U : List Nat}
    (h : ∀ W w', Fr (blkS nv) W0 w' → W.Perm U → SrtL ser W → OwnS w' nv 59 2 (RW ser f (X ++ (W ++ Y))) → K (.tuple #[]) w') :
    ∀ (R S : List Nat) (w : World), 0 < S.length → a + S.length + R.length = b → (S ++ R).Perm U → SrtL ser S → Low S R → R.Pairwise (· < ·) → Fr (blkS nv) W0 w → OwnS w nv 59 2 (RW ser f (X ++ (S ++ (R ++ Y)))) →
      F83.l1 K nv (.int .i64 (a : Int)) (.int .i64 (b : Int)) cv (.int .i64 ((a + S.length : Nat) : Int)) w := by
  intro R
  induction R with
  | nil =>
    intro S w hS0 hl hp hS hL hR hfr ho
    refine F83.l1.to ?_
    have : ¬ (((a + S.length : Nat) : Int) < (b : Int)) := by simp at hl; omega
    simp only [C.ite_true, C.ite_false, C.pick_true, C.pick_false, C.not_bool, C.field_ptr, C.nilCheck_ptr, C.add_mk, C.sub_mk, C.mul_mk, C.eql_mk, C.neq_mk, C.lss_mk, C.leq_mk, C.gtr_mk, C.geq_mk, C.conv_mk, C.len_mk, C.ext_0, C.ext_1, C.ext3_0, C.ext3_1, C.ext3_2, C.guarded_yes, C.guarded_tf, C.guarded_ft, C.guarded_undef, Bool.not_true, Bool.not_false, Nat.zero_add, eq_self, decide_true, decide_false, this]
    exact h S w hfr (by simpa using hp) hS (by simpa using ho)
  | cons v R ih =>
    intro S w hS0 hl hp hS hL hR hfr ho
    simp only [List.length_cons] at hl
    refine F83.l1.to ?_
    simp only [C.ite_true, C.ite_false, C.pick_true, C.pick_false, C.not_bool, C.field_ptr, C.nilCheck_ptr, C.add_mk, C.sub_mk, C.mul_mk, C.eql_mk, C.neq_mk, C.lss_mk, C.leq_mk, C.gtr_mk, C.geq_mk, C.conv_mk, C.len_mk, C.ext_0, C.ext_1, C.ext3_0, C.ext3_1, C.ext3_2, C.guarded_yes, C.guarded_tf, C.guarded_ft, C.guarded_undef, Bool.not_true, Bool.not_false, Nat.zero_add, eq_self, decide_true, decide_false, show (((a + S.length : Nat) : Int) < (b : Int)) by omega]
    refine F83.k3.to ?_
    obtain ⟨r1, r2⟩ := List.pairwise_cons.1 hR
    refine ins_inner hC (S := S) (R := R) (v := v) hX (by omega) hS (fun u hu x hx => hL u hu x (by simp at hx; simp [hx])) (fun W w' hf' hpW hsW hoW => ?_) S.length S [] w rfl (by simp) (by simp) hfr (by simpa using ho)
    have hWl : W.length = S.length + 1 := by rw [hpW.length_eq]; simp
    refine F83.k2.to ?_
    simp only [C.ite_true, C.ite_false, C.pick_true, C.pick_false, C.not_bool, C.field_ptr, C.nilCheck_ptr, C.add_mk, C.sub_mk, C.mul_mk, C.eql_mk, C.neq_mk, C.lss_mk, C.leq_mk, C.gtr_mk, C.geq_mk, C.conv_mk, C.len_mk, C.ext_0, C.ext_1, C.ext3_0, C.ext3_1, C.ext3_2, C.guarded_yes, C.guarded_tf, C.guarded_ft, C.guarded_undef, Bool.not_true, Bool.not_false, Nat.zero_add, eq_self, decide_true, decide_false]
    rw [wrap64_id (n := ((a + S.length : Nat) : Int) + 1) (by omega), show ((a + S.length : Nat) : Int) + 1 = ((a + W.length : Nat) : Int) by omega]
    refine ih W w' (by omega) (by omega) ?_ hsW (fun u hu x hx => ?_) r2 hf' hoW
    · have e := (hpW.append_right R).trans (by simp : (S ++ [v] ++ R).Perm (S ++ v :: R))
      exact e.trans hp
    · rcases List.mem_append.1 (hpW.mem_iff.1 hu) with c | c
      · exact hL u c x (by simp [hx])
      · simp at c; subst c; exact r1 x hx
theorem insertion_c (hC : CmpOk ser f cv) {X U Y : List Nat} {a b : Nat} (hX : X.length = a) (hab : a + U.length = b) (hb : b ≤ 100000) (hU : U.Pairwise (· < ·)) (ho : OwnS w nv 59 2 (RW ser f (X ++ (U ++ Y))))
    (h : ∀ W w', Fr (blkS nv) w w' → W.Perm U → SrtL ser W → OwnS w' nv 59 2 (RW ser f (X ++ (W ++ Y))) → K (.tuple #[]) w') : C.call Try.prog 83 #[nv, .int .i64 (a : Int), .int .i64 (b : Int), cv] w K := by
  refine F83.sh ?_
  simp only [C.ite_true, C.ite_false, C.pick_true, C.pick_false, C.not_bool, C.field_ptr, C.nilCheck_ptr, C.add_mk, C.sub_mk, C.mul_mk, C.eql_mk, C.neq_mk, C.lss_mk, C.leq_mk, C.gtr_mk, C.geq_mk, C.conv_mk, C.len_mk, C.ext_0, C.ext_1, C.ext3_0, C.ext3_1, C.ext3_2, C.guarded_yes, C.guarded_tf, C.guarded_ft, C.guarded_undef, Bool.not_true, Bool.not_false, Nat.zero_add, eq_self, decide_true, decide_false]
  rw [wrap64_id (n := (a : Int) + 1) (by omega)]
  cases U with
  | nil =>
    refine F83.l1.to ?_
    have : ¬ ((a : Int) + 1 < (b : Int)) := by simp at hab; omega
    simp only [C.ite_true, C.ite_false, C.pick_true, C.pick_false, C.not_bool, C.field_ptr, C.nilCheck_ptr, C.add_mk, C.sub_mk, C.mul_mk, C.eql_mk, C.neq_mk, C.lss_mk, C.leq_mk, C.gtr_mk, C.geq_mk, C.conv_mk, C.len_mk, C.ext_0, C.ext_1, C.ext3_0, C.ext3_1, C.ext3_2, C.guarded_yes, C.guarded_tf, C.guarded_ft, C.guarded_undef, Bool.not_true, Bool.not_false, Nat.zero_add, eq_self, decide_true, decide_false, this]
    exact h [] w (Fr.refl _ _) (List.Perm.refl _) List.Pairwise.nil ho
  | cons u U =>
    obtain ⟨u1, u2⟩ := List.pairwise_cons.1 hU
    rw [show (a : Int) + 1 = ((a + [u].length : Nat) : Int) by simp]
    exact ins_outer hC hX hb h U [u] w (by simp) (by simp at hab ⊢; omega) (List.Perm.refl _) (by simp [SrtL]) (fun x hx y hy => by simp at hx; subst hx; exact u1 y hy) u2 (Fr.refl _ _) (by simpa using ho)
end
end Go.Proofs.YtfjilngljnlkjaaV
