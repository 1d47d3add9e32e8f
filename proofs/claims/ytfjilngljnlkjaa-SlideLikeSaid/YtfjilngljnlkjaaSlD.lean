/- SlideTells, SlideWhole, SlideLike. -/
import Derived.Test.YtfjilngljnlkjaaSlC
namespace Go.Proofs.YtfjilngljnlkjaaV
open Go Go.Proofs Go.RowKit
set_option linter.unusedVariables false
set_option linter.unusedSimpArgs false
set_option maxRecDepth 10000
section
variable {K : VK} {w : World}
theorem unl2_inner {W0 : World} {mv : Value} {m : List Ob} {gs : List Value} {i : Nat} (hM : ObsAt W0 mv m gs) (hi : i < m.length)
    (h0 : ∀ w', Fr [] W0 w' → ¬ Unl m → K (.bool false) w') (h1 : ∀ w', Fr [] W0 w' → (∀ j (hj : j < i), (m[j]'(by omega)).ser ≠ m[i].ser) → F30.k3 K mv (.int .i64 (i : Int)) w') :
    ∀ (d j : Nat) (w : World), i = j + d → Fr [] W0 w → (∀ k (hk : k < i), k < j → (m[k]'(by omega)).ser ≠ m[i].ser) → F30.l5 K mv (.int .i64 (i : Int)) (.int .i64 (j : Int)) w := by
  have hml := hM.le
  intro d
  induction d with
  | zero =>
    intro j w hj hf hn
    refine F30.l5.to ?_
    simp only [C.ite_true, C.ite_false, C.pick_true, C.pick_false, C.not_bool, C.field_ptr, C.nilCheck_ptr, C.add_mk, C.sub_mk, C.mul_mk, C.eql_mk, C.neq_mk, C.lss_mk, C.leq_mk, C.gtr_mk, C.geq_mk, C.conv_mk, C.len_mk, C.ext_0, C.ext_1, C.ext3_0, C.ext3_1, C.ext3_2, C.guarded_yes, C.guarded_tf, C.guarded_ft, C.guarded_undef, Bool.not_true, Bool.not_false, Nat.zero_add, eq_self, decide_true, decide_false, show ¬ ((j : Int) < (i : Int)) by omega]
    exact h1 w hf fun k hk => hn k hk (by omega)
  | succ d ih =>
    intro j w hj hf hn
    have jl : j < m.length := by omega
    have hig : i < gs.length := by rw [hM.len]; exact hi
    have hjg : j < gs.length := by rw [hM.len]; exact jl
    refine F30.l5.to ?_
    simp only [C.ite_true, C.ite_false, C.pick_true, C.pick_false, C.not_bool, C.field_ptr, C.nilCheck_ptr, C.add_mk, C.sub_mk, C.mul_mk, C.eql_mk, C.neq_mk, C.lss_mk, C.leq_mk, C.gtr_mk, C.geq_mk, C.conv_mk, C.len_mk, C.ext_0, C.ext_1, C.ext3_0, C.ext3_1, C.ext3_2, C.guarded_yes, C.guarded_tf, C.guarded_ft, C.guarded_undef, Bool.not_true, Bool.not_false, Nat.zero_add, eq_self, decide_true, decide_false, show ((j : Int) < (i : Int)) by omega]
    refine F30.k7.to (C.draw_of (fun w' => Fr [] W0 w') fun w1 hf1 he1 => ⟨hf.trans hf1, ?_⟩)
    have f1 := hf.trans hf1
    refine C.idx_rdS (S := fun w2 => Fr [] W0 w2) (fun w2 hw => (hM.keep hw).rd) f1 (by omega) (by rw [Int.toNat_natCast]; exact obC_get hi hig) fun g1 o1 _ hs1 => ?_
    simp only [C.ite_true, C.ite_false, C.pick_true, C.pick_false, C.not_bool, C.field_ptr, C.nilCheck_ptr, C.add_mk, C.sub_mk, C.mul_mk, C.eql_mk, C.neq_mk, C.lss_mk, C.leq_mk, C.gtr_mk, C.geq_mk, C.conv_mk, C.len_mk, C.ext_0, C.ext_1, C.ext3_0, C.ext3_1, C.ext3_2, C.guarded_yes, C.guarded_tf, C.guarded_ft, C.guarded_undef, Bool.not_true, Bool.not_false, Nat.zero_add, eq_self, decide_true, decide_false]
    refine C.idx_rdS (S := fun w2 => Fr [] W0 w2) (fun w2 hw => (hM.keep hw).rd) f1 (by omega) (by rw [Int.toNat_natCast]; exact obC_get jl hjg) fun g2 o2 _ hs2 => ?_
    simp only [C.ite_true, C.ite_false, C.pick_true, C.pick_false, C.not_bool, C.field_ptr, C.nilCheck_ptr, C.add_mk, C.sub_mk, C.mul_mk, C.eql_mk, C.neq_mk, C.lss_mk, C.leq_mk, C.gtr_mk, C.geq_mk, C.conv_mk, C.len_mk, C.ext_0, C.ext_1, C.ext3_0, C.ext3_1, C.ext3_2, C.guarded_yes, C.guarded_tf, C.guarded_ft, C.guarded_undef, Bool.not_true, Bool.not_false, Nat.zero_add, eq_self, decide_true, decide_false]
    refine C.load1S_of (v := .int .i64 m[i].ser) (fun w' hw => by obtain ⟨cs, e, fz, x, y⟩ := hs1 w' hw; exact ⟨cs, e, fz, x, by simpa using y 1 (by omega)⟩) ?_
    refine C.load1S_of (v := .int .i64 m[j].ser) (fun w' hw => by obtain ⟨cs, e, fz, x, y⟩ := hs2 w' hw; exact ⟨cs, e, fz, x, by simpa using y 1 (by omega)⟩) ?_
    by_cases c : m[i].ser = m[j].ser
    · simp only [C.ite_true, C.ite_false, C.pick_true, C.pick_false, C.not_bool, C.field_ptr, C.nilCheck_ptr, C.add_mk, C.sub_mk, C.mul_mk, C.eql_mk, C.neq_mk, C.lss_mk, C.leq_mk, C.gtr_mk, C.geq_mk, C.conv_mk, C.len_mk, C.ext_0, C.ext_1, C.ext3_0, C.ext3_1, C.ext3_2, C.guarded_yes, C.guarded_tf, C.guarded_ft, C.guarded_undef, Bool.not_true, Bool.not_false, Nat.zero_add, eq_self, decide_true, decide_false, c]
      refine h0 w1 f1 fun hU => ?_
      exact List.pairwise_iff_getElem.1 hU j i jl hi (by omega) c.symm
    · simp only [C.ite_true, C.ite_false, C.pick_true, C.pick_false, C.not_bool, C.field_ptr, C.nilCheck_ptr, C.add_mk, C.sub_mk, C.mul_mk, C.eql_mk, C.neq_mk, C.lss_mk, C.leq_mk, C.gtr_mk, C.geq_mk, C.conv_mk, C.len_mk, C.ext_0, C.ext_1, C.ext3_0, C.ext3_1, C.ext3_2, C.guarded_yes, C.guarded_tf, C.guarded_ft, C.guarded_undef, Bool.not_true, Bool.not_false, Nat.zero_add, eq_self, decide_true, decide_false, c]
      refine F30.k6.to ?_
      simp only [C.ite_true, C.ite_false, C.pick_true, C.pick_false, C.not_bool, C.field_ptr, C.nilCheck_ptr, C.add_mk, C.sub_mk, C.mul_mk, C.eql_mk, C.neq_mk, C.lss_mk, C.leq_mk, C.gtr_mk, C.geq_mk, C.conv_mk, C.len_mk, C.ext_0, C.ext_1, C.ext3_0, C.ext3_1, C.ext3_2, C.guarded_yes, C.guarded_tf, C.guarded_ft, C.guarded_undef, Bool.not_true, Bool.not_false, Nat.zero_add, eq_self, decide_true, decide_false]
      rw [wrap64_id (n := (j : Int) + 1) (by omega), show (j : Int) + 1 = ((j + 1 : Nat) : Int) by omega]
      refine ih (j + 1) w1 (by omega) f1 fun k hk hkj => ?_
      by_cases e : k = j
      · subst e; exact fun x => c x.symm
      · exact hn k hk (by omega)
theorem unl2_outer {W0 : World} {mv : Value} {m : List Ob} {gs : List Value} (hM : ObsAt W0 mv m gs)
    (h0 : ∀ w', Fr [] W0 w' → ¬ Unl m → K (.bool false) w') (h1 : ∀ w', Fr [] W0 w' → Unl m → K (.bool true) w') :
    ∀ (d i : Nat) (w : World), m.length = i + d → Fr [] W0 w → (∀ j k (hj : j < m.length) (hk : k < m.length), j < k → k < i → m[j].ser ≠ m[k].ser) → F30.l2 K mv (.int .i64 (i : Int)) w := by
  have hml := hM.le
  intro d
  induction d with
  | zero =>
    intro i w hi hf hn
    refine F30.l2.to ((hM.keep hf).lenC ?_)
    simp only [C.ite_true, C.ite_false, C.pick_true, C.pick_false, C.not_bool, C.field_ptr, C.nilCheck_ptr, C.add_mk, C.sub_mk, C.mul_mk, C.eql_mk, C.neq_mk, C.lss_mk, C.leq_mk, C.gtr_mk, C.geq_mk, C.conv_mk, C.len_mk, C.ext_0, C.ext_1, C.ext3_0, C.ext3_1, C.ext3_2, C.guarded_yes, C.guarded_tf, C.guarded_ft, C.guarded_undef, Bool.not_true, Bool.not_false, Nat.zero_add, eq_self, decide_true, decide_false, show ¬ ((i : Int) < (m.length : Int)) by omega]
    exact F30.k9.to (h1 w hf (List.pairwise_iff_getElem.2 fun j k hj hk hjk => hn j k hj hk hjk (by omega)))
  | succ d ih =>
    intro i w hi hf hn
    have il : i < m.length := by omega
    refine F30.l2.to ((hM.keep hf).lenC ?_)
    simp only [C.ite_true, C.ite_false, C.pick_true, C.pick_false, C.not_bool, C.field_ptr, C.nilCheck_ptr, C.add_mk, C.sub_mk, C.mul_mk, C.eql_mk, C.neq_mk, C.lss_mk, C.leq_mk, C.gtr_mk, C.geq_mk, C.conv_mk, C.len_mk, C.ext_0, C.ext_1, C.ext3_0, C.ext3_1, C.ext3_2, C.guarded_yes, C.guarded_tf, C.guarded_ft, C.guarded_undef, Bool.not_true, Bool.not_false, Nat.zero_add, eq_self, decide_true, decide_false, show ((i : Int) < (m.length : Int)) by omega]
    refine F30.k4.to (unl2_inner hM il h0 (fun w1 hf1 hne => ?_) i 0 w (by omega) hf fun k hk hk0 => by omega)
    refine F30.k3.to ?_
    simp only [C.ite_true, C.ite_false, C.pick_true, C.pick_false, C.not_bool, C.field_ptr, C.nilCheck_ptr, C.add_mk, C.sub_mk, C.mul_mk, C.eql_mk, C.neq_mk, C.lss_mk, C.leq_mk, C.gtr_mk, C.geq_mk, C.conv_mk, C.len_mk, C.ext_0, C.ext_1, C.ext3_0, C.ext3_1, C.ext3_2, C.guarded_yes, C.guarded_tf, C.guarded_ft, C.guarded_undef, Bool.not_true, Bool.not_false, Nat.zero_add, eq_self, decide_true, decide_false]
    rw [wrap64_id (n := (i : Int) + 1) (by omega), show (i : Int) + 1 = ((i + 1 : Nat) : Int) by omega]
    refine ih (i + 1) w1 (by omega) hf1 fun j k hj hk hjk hki => ?_
    by_cases e : k = i
    · subst e; exact hne j hjk
    · exact hn j k hj hk hjk (by omega)
theorem unlike2_c {mv : Value} {m : List Ob} {gs : List Value} (hM : ObsAt w mv m gs)
    (h0 : ∀ w', Fr [] w w' → ¬ Unl m → K (.bool false) w') (h1 : ∀ w', Fr [] w w' → Unl m → K (.bool true) w') : C.call Try.prog 30 #[mv] w K :=
  F30.sh (unl2_outer hM h0 h1 m.length 0 w (by omega) (Fr.refl _ _) fun j k _ _ _ hk => by omega)
/-! ### SlideTells -/
theorem tells_loop {W0 : World} {tv mv yv ov : Value} {m : List Ob} {gs : List Value} {l : List Int} {S : List Nat} (hO : Spl 0 l m) (hlen : l.length ≤ 2048) (hP : Pls m S) (ht : RdS W0 tv 1 (intC (lay m S))) (hm : RdS W0 mv 2 (valC (mvL m S S.length))) (hM : ObsAt W0 yv m gs) (ho : RdS W0 ov 1 (intC (natI S)))
    (h : ∀ w', Fr [] W0 w' → K (.bool true) w') :
    ∀ (d j : Nat) (w : World), S.length = j + d → Fr [] W0 w → F7.l17 K tv mv yv ov (.int .i64 (szS m (S.take j) : Int)) (.int .i64 (j : Int)) w := by
  have hSl := hP.len
  have hml := hO.len
  intro d
  induction d with
  | zero =>
    intro j w hj hf
    refine F7.l17.to (C.len_rd (ho.keep hf) ?_)
    rw [intC_len, natI_len]
    simp only [C.ite_true, C.ite_false, C.pick_true, C.pick_false, C.not_bool, C.field_ptr, C.nilCheck_ptr, C.add_mk, C.sub_mk, C.mul_mk, C.eql_mk, C.neq_mk, C.lss_mk, C.leq_mk, C.gtr_mk, C.geq_mk, C.conv_mk, C.len_mk, C.ext_0, C.ext_1, C.ext3_0, C.ext3_1, C.ext3_2, C.guarded_yes, C.guarded_tf, C.guarded_ft, C.guarded_undef, Bool.not_true, Bool.not_false, Nat.zero_add, eq_self, decide_true, decide_false, show ¬ ((j : Int) < (S.length : Int)) by omega]
    refine F7.k22.to (C.len_rd (ht.keep hf) ?_)
    rw [intC_len, List.take_of_length_le (by omega), show (lay m S).length = szS m S from layS_len]
    simp only [C.ite_true, C.ite_false, C.pick_true, C.pick_false, C.not_bool, C.field_ptr, C.nilCheck_ptr, C.add_mk, C.sub_mk, C.mul_mk, C.eql_mk, C.neq_mk, C.lss_mk, C.leq_mk, C.gtr_mk, C.geq_mk, C.conv_mk, C.len_mk, C.ext_0, C.ext_1, C.ext3_0, C.ext3_1, C.ext3_2, C.guarded_yes, C.guarded_tf, C.guarded_ft, C.guarded_undef, Bool.not_true, Bool.not_false, Nat.zero_add, eq_self, decide_true, decide_false]
    exact h w hf
  | succ d ih =>
    intro j w hj hf
    have jl : j < S.length := by omega
    have jl' : j < (natI S).length := by rw [natI_len]; exact jl
    have jlm : j < (mvL m S S.length).length := by rw [mvL_len]; exact jl
    have hpm := hP.2 _ (List.getElem_mem jl)
    have hpg : S[j] < gs.length := by rw [hM.len]; exact hpm
    have et : S.take (j + 1) = S.take j ++ [S[j]] := by rw [List.take_add_one, List.getElem?_eq_getElem jl]; rfl
    have hsz : szS m (S.take j) + szA m S[j] ≤ 2048 := by
      have h1 : Pls m (S.take (j + 1)) := ⟨hP.1.sublist (List.take_sublist _ _), fun p hp => hP.2 p (List.mem_of_mem_take hp)⟩
      have := h1.sz hO
      rw [et, szI] at this
      omega
    have hza : szA m S[j] = 1 + m[S[j]].fs.length := by rw [szA_get hpm]; rfl
    have gx : (mvL m S S.length)[j] = ((m[S[j]].at_ : Int), (szS m (S.take j) : Int)) := by rw [mvL_get jl jl jlm, atA_get hpm]
    refine F7.l17.to (C.len_rd (ho.keep hf) ?_)
    rw [intC_len, natI_len]
    simp only [C.ite_true, C.ite_false, C.pick_true, C.pick_false, C.not_bool, C.field_ptr, C.nilCheck_ptr, C.add_mk, C.sub_mk, C.mul_mk, C.eql_mk, C.neq_mk, C.lss_mk, C.leq_mk, C.gtr_mk, C.geq_mk, C.conv_mk, C.len_mk, C.ext_0, C.ext_1, C.ext3_0, C.ext3_1, C.ext3_2, C.guarded_yes, C.guarded_tf, C.guarded_ft, C.guarded_undef, Bool.not_true, Bool.not_false, Nat.zero_add, eq_self, decide_true, decide_false, show ((j : Int) < (S.length : Int)) by omega]
    refine F7.k19.to (C.draw_of (fun w' => Fr [] W0 w') fun w1 hf1 he1 => ⟨hf.trans hf1, ?_⟩)
    have f1 := hf.trans hf1
    refine C.idx_rdS (S := fun w' => Fr [] W0 w') (fun w' hw => hm.keep hw) f1 (by omega) (by rw [Int.toNat_natCast]; exact valC_get jlm) fun g1 o1 hl1 hs1 => ?_
    refine C.idx_intS (S := fun w' => Fr [] W0 w') (fun w' hw => ho.keep hw) f1 jl' fun g2 o2 hs2 => ?_
    refine C.loadAS_cells hl1 (by omega) hs1 (C.load1S_of hs2 ?_)
    rw [natI_get jl jl']
    refine C.idx_rdS (S := fun w' => Fr [] W0 w') (fun w' hw => (hM.keep hw).rd) f1 (by omega) (by rw [Int.toNat_natCast]; exact obC_get hpm hpg) fun g3 o3 _ hs3 => ?_
    simp only [C.ite_true, C.ite_false, C.pick_true, C.pick_false, C.not_bool, C.field_ptr, C.nilCheck_ptr, C.add_mk, C.sub_mk, C.mul_mk, C.eql_mk, C.neq_mk, C.lss_mk, C.leq_mk, C.gtr_mk, C.geq_mk, C.conv_mk, C.len_mk, C.ext_0, C.ext_1, C.ext3_0, C.ext3_1, C.ext3_2, C.guarded_yes, C.guarded_tf, C.guarded_ft, C.guarded_undef, Bool.not_true, Bool.not_false, Nat.zero_add, eq_self, decide_true, decide_false]
    refine C.load1S_of (v := .int .i64 (m[S[j]].at_ : Int)) (fun w' hw => by obtain ⟨cs, e, fz, x, y⟩ := hs3 w' hw; exact ⟨cs, e, fz, x, by simpa using y 0 (by omega)⟩) ⟨_, fun w' _ => bMv _ _, ?_⟩
    rw [gx]
    refine ⟨_, fun w' _ => neqMv _ _ ((m[S[j]].at_ : Int), (szS m (S.take j) : Int)) ((m[S[j]].at_ : Int), (szS m (S.take j) : Int)), ?_⟩
    rw [show (!([(m[S[j]].at_ : Int), (szS m (S.take j) : Int)] == [(m[S[j]].at_ : Int), (szS m (S.take j) : Int)])) = false by simp]
    simp only [C.ite_true, C.ite_false, C.pick_true, C.pick_false, C.not_bool, C.field_ptr, C.nilCheck_ptr, C.add_mk, C.sub_mk, C.mul_mk, C.eql_mk, C.neq_mk, C.lss_mk, C.leq_mk, C.gtr_mk, C.geq_mk, C.conv_mk, C.len_mk, C.ext_0, C.ext_1, C.ext3_0, C.ext3_1, C.ext3_2, C.guarded_yes, C.guarded_tf, C.guarded_ft, C.guarded_undef, Bool.not_true, Bool.not_false, Nat.zero_add, eq_self, decide_true, decide_false]
    refine F7.k21.to ?_
    simp only [C.ite_true, C.ite_false, C.pick_true, C.pick_false, C.not_bool, C.field_ptr, C.nilCheck_ptr, C.add_mk, C.sub_mk, C.mul_mk, C.eql_mk, C.neq_mk, C.lss_mk, C.leq_mk, C.gtr_mk, C.geq_mk, C.conv_mk, C.len_mk, C.ext_0, C.ext_1, C.ext3_0, C.ext3_1, C.ext3_2, C.guarded_yes, C.guarded_tf, C.guarded_ft, C.guarded_undef, Bool.not_true, Bool.not_false, Nat.zero_add, eq_self, decide_true, decide_false]
    rw [wrap64_id (n := (szS m (S.take j) : Int) + 1) (by omega)]
    refine C.idx_int (ho.keep f1) jl' fun g o cs e fz hg hv => C.load1_of hg hv ?_
    rw [natI_get jl jl']
    refine ObsAt.get0 hM f1 hpm fun g o cs e fz fv hg _ _ h2 hr2 => ?_
    simp only [C.ite_true, C.ite_false, C.pick_true, C.pick_false, C.not_bool, C.field_ptr, C.nilCheck_ptr, C.add_mk, C.sub_mk, C.mul_mk, C.eql_mk, C.neq_mk, C.lss_mk, C.leq_mk, C.gtr_mk, C.geq_mk, C.conv_mk, C.len_mk, C.ext_0, C.ext_1, C.ext3_0, C.ext3_1, C.ext3_2, C.guarded_yes, C.guarded_tf, C.guarded_ft, C.guarded_undef, Bool.not_true, Bool.not_false, Nat.zero_add, eq_self, decide_true, decide_false]
    refine C.load1_of hg h2 (C.len_rd hr2 ?_)
    rw [intC_len]
    simp only [C.ite_true, C.ite_false, C.pick_true, C.pick_false, C.not_bool, C.field_ptr, C.nilCheck_ptr, C.add_mk, C.sub_mk, C.mul_mk, C.eql_mk, C.neq_mk, C.lss_mk, C.leq_mk, C.gtr_mk, C.geq_mk, C.conv_mk, C.len_mk, C.ext_0, C.ext_1, C.ext3_0, C.ext3_1, C.ext3_2, C.guarded_yes, C.guarded_tf, C.guarded_ft, C.guarded_undef, Bool.not_true, Bool.not_false, Nat.zero_add, eq_self, decide_true, decide_false]
    rw [wrap64_id (n := (szS m (S.take j) : Int) + 1 + (m[S[j]].fs.length : Int)) (by omega)]
    refine F7.k18.to ?_
    simp only [C.ite_true, C.ite_false, C.pick_true, C.pick_false, C.not_bool, C.field_ptr, C.nilCheck_ptr, C.add_mk, C.sub_mk, C.mul_mk, C.eql_mk, C.neq_mk, C.lss_mk, C.leq_mk, C.gtr_mk, C.geq_mk, C.conv_mk, C.len_mk, C.ext_0, C.ext_1, C.ext3_0, C.ext3_1, C.ext3_2, C.guarded_yes, C.guarded_tf, C.guarded_ft, C.guarded_undef, Bool.not_true, Bool.not_false, Nat.zero_add, eq_self, decide_true, decide_false]
    rw [wrap64_id (n := (j : Int) + 1) (by omega), show (j : Int) + 1 = ((j + 1 : Nat) : Int) by omega, show (szS m (S.take j) : Int) + 1 + (m[S[j]].fs.length : Int) = ((szS m (S.take (j + 1)) : Nat) : Int) by rw [et, szI]; omega]
    exact ih (j + 1) w1 (by omega) f1
theorem SlideTells_c {lv rv : Value} {l roots : List Int} (hl : RdS w lv 1 (intC l)) (hr : Rng l) (hrv : RdS w rv 1 (intC roots)) (hrr : Rng roots) (h : ∀ w', Fr [] w w' → K (.bool true) w') : C.call Try.prog 7 #[lv, rv] w K := by
  refine F7.sh (alive38_c fun w1 hf1 => ?_)
  simp only [C.ite_true, C.ite_false, C.pick_true, C.pick_false, C.not_bool, C.field_ptr, C.nilCheck_ptr, C.add_mk, C.sub_mk, C.mul_mk, C.eql_mk, C.neq_mk, C.lss_mk, C.leq_mk, C.gtr_mk, C.geq_mk, C.conv_mk, C.len_mk, C.ext_0, C.ext_1, C.ext3_0, C.ext3_1, C.ext3_2, C.guarded_yes, C.guarded_tf, C.guarded_ft, C.guarded_undef, Bool.not_true, Bool.not_false, Nat.zero_add, eq_self, decide_true, decide_false]
  refine F7.k3.to (few38_c (hl.keep hf1) hr fun lv l hl hr hlen => few38_c (hrv.keep hf1) hrr fun rv roots hrv hrr hrlen => ?_)
  have z0 : ((0 : Nat) : Int) = 0 := rfl
  refine Slide_c hl hr hrv hrr (by omega) (fun c m w2 hc c0 hf2 => ?_) fun m tv hv w2 hc hf2 ht hh _ _ => ?_
  · simp only [C.ite_true, C.ite_false, C.pick_true, C.pick_false, C.not_bool, C.field_ptr, C.nilCheck_ptr, C.add_mk, C.sub_mk, C.mul_mk, C.eql_mk, C.neq_mk, C.lss_mk, C.leq_mk, C.gtr_mk, C.geq_mk, C.conv_mk, C.len_mk, C.ext_0, C.ext_1, C.ext3_0, C.ext3_1, C.ext3_2, C.guarded_yes, C.guarded_tf, C.guarded_ft, C.guarded_undef, Bool.not_true, Bool.not_false, Nat.zero_add, eq_self, decide_true, decide_false]
    refine Moves_c (hl.keep hf2) hr (hrv.keep hf2) hrr (by omega) (fun c' m' w3 hc' c0' hf3 => ?_) fun m' mv w3 hc' hf3 _ _ => absurd (hc.det hc').1 c0
    obtain ⟨rfl, _⟩ := hc.det hc'
    have f3 := hf2.trans hf3
    simp only [C.ite_true, C.ite_false, C.pick_true, C.pick_false, C.not_bool, C.field_ptr, C.nilCheck_ptr, C.add_mk, C.sub_mk, C.mul_mk, C.eql_mk, C.neq_mk, C.lss_mk, C.leq_mk, C.gtr_mk, C.geq_mk, C.conv_mk, C.len_mk, C.ext_0, C.ext_1, C.ext3_0, C.ext3_1, C.ext3_2, C.guarded_yes, C.guarded_tf, C.guarded_ft, C.guarded_undef, Bool.not_true, Bool.not_false, Nat.zero_add, eq_self, decide_true, decide_false]
    refine ROpen_c (hl.keep f3) hr fun c' m' fs yv w4 hd' hf4 hM4 => ?_
    have f4 := f3.trans hf4
    have out : ∀ w', Fr [] w1 w' → F7.k9 K rv (.slice none 0 0) (.slice none 0 0) (.int .i64 c) (.slice none 0 0) (.int .i64 c) yv (.int .i64 c) w' := fun w' hf' => by
      refine F7.k9.to ?_
      simp only [C.ite_true, C.ite_false, C.pick_true, C.pick_false, C.not_bool, C.field_ptr, C.nilCheck_ptr, C.add_mk, C.sub_mk, C.mul_mk, C.eql_mk, C.neq_mk, C.lss_mk, C.leq_mk, C.gtr_mk, C.geq_mk, C.conv_mk, C.len_mk, C.ext_0, C.ext_1, C.ext3_0, C.ext3_1, C.ext3_2, C.guarded_yes, C.guarded_tf, C.guarded_ft, C.guarded_undef, Bool.not_true, Bool.not_false, Nat.zero_add, eq_self, decide_true, decide_false, ne_eq, c0, not_false_eq_true, z0]
      exact h w' (hf1.trans hf')
    simp only [C.ite_true, C.ite_false, C.pick_true, C.pick_false, C.not_bool, C.field_ptr, C.nilCheck_ptr, C.add_mk, C.sub_mk, C.mul_mk, C.eql_mk, C.neq_mk, C.lss_mk, C.leq_mk, C.gtr_mk, C.geq_mk, C.conv_mk, C.len_mk, C.ext_0, C.ext_1, C.ext3_0, C.ext3_1, C.ext3_2, C.guarded_yes, C.guarded_tf, C.guarded_ft, C.guarded_undef, Bool.not_true, Bool.not_false, Nat.zero_add, eq_self, decide_true, decide_false]
    by_cases c0'' : c' = 0
    · subst c0''
      rcases hc with ⟨a, b⟩ | ⟨rfl, a, b⟩ | ⟨rfl, _⟩
      · exact absurd (a.det hd').1 b
      · obtain ⟨_, rfl⟩ := a.det hd'
        simp only [C.ite_true, C.ite_false, C.pick_true, C.pick_false, C.not_bool, C.field_ptr, C.nilCheck_ptr, C.add_mk, C.sub_mk, C.mul_mk, C.eql_mk, C.neq_mk, C.lss_mk, C.leq_mk, C.gtr_mk, C.geq_mk, C.conv_mk, C.len_mk, C.ext_0, C.ext_1, C.ext3_0, C.ext3_1, C.ext3_2, C.guarded_yes, C.guarded_tf, C.guarded_ft, C.guarded_undef, Bool.not_true, Bool.not_false, Nat.zero_add, eq_self, decide_true, decide_false]
        refine Fine_c hM4 (hrv.keep f4) hrr fun w5 hf5 => ?_
        have e : roots.all (fineW m) = false := by
          cases g : roots.all (fineW m) with
          | false => rfl
          | true => exact absurd (all_fine.1 g) b
        rw [e]
        simp only [C.ite_true, C.ite_false, C.pick_true, C.pick_false, C.not_bool, C.field_ptr, C.nilCheck_ptr, C.add_mk, C.sub_mk, C.mul_mk, C.eql_mk, C.neq_mk, C.lss_mk, C.leq_mk, C.gtr_mk, C.geq_mk, C.conv_mk, C.len_mk, C.ext_0, C.ext_1, C.ext3_0, C.ext3_1, C.ext3_2, C.guarded_yes, C.guarded_tf, C.guarded_ft, C.guarded_undef, Bool.not_true, Bool.not_false, Nat.zero_add, eq_self, decide_true, decide_false]
        exact out w5 (f4.trans hf5)
      · exact absurd rfl c0
    · have ecc : c = c' := by
        rcases hc with ⟨a, b⟩ | ⟨rfl, a, b⟩ | ⟨rfl, _⟩
        · exact (a.det hd').1
        · exact absurd (a.det hd').1.symm c0''
        · exact absurd rfl c0
      subst ecc
      simp only [C.ite_true, C.ite_false, C.pick_true, C.pick_false, C.not_bool, C.field_ptr, C.nilCheck_ptr, C.add_mk, C.sub_mk, C.mul_mk, C.eql_mk, C.neq_mk, C.lss_mk, C.leq_mk, C.gtr_mk, C.geq_mk, C.conv_mk, C.len_mk, C.ext_0, C.ext_1, C.ext3_0, C.ext3_1, C.ext3_2, C.guarded_yes, C.guarded_tf, C.guarded_ft, C.guarded_undef, Bool.not_true, Bool.not_false, Nat.zero_add, eq_self, decide_true, decide_false, c0]
      exact out w4 f4
  · have hO := hc.opn
    have hro : ∀ o ∈ m, Rng o.fs := fun o ho => by
      obtain ⟨i, hi, rfl⟩ := List.getElem_of_mem ho
      exact hr.fs hO.spl hi
    have hml := hO.spl.len
    have hPS := slO_pls m roots
    have hSl := hPS.len
    simp only [C.ite_true, C.ite_false, C.pick_true, C.pick_false, C.not_bool, C.field_ptr, C.nilCheck_ptr, C.add_mk, C.sub_mk, C.mul_mk, C.eql_mk, C.neq_mk, C.lss_mk, C.leq_mk, C.gtr_mk, C.geq_mk, C.conv_mk, C.len_mk, C.ext_0, C.ext_1, C.ext3_0, C.ext3_1, C.ext3_2, C.guarded_yes, C.guarded_tf, C.guarded_ft, C.guarded_undef, Bool.not_true, Bool.not_false, Nat.zero_add, eq_self, decide_true, decide_false]
    refine Moves_c (hl.keep hf2) hr (hrv.keep hf2) hrr (by omega) (fun c' m' w3 hc' c0' hf3 => absurd (hc'.det hc).1 c0') fun m' mv w3 hc' hf3 _ hm3 => ?_
    obtain ⟨_, rfl⟩ := hc.det hc'
    have f3 := hf2.trans hf3
    simp only [C.ite_true, C.ite_false, C.pick_true, C.pick_false, C.not_bool, C.field_ptr, C.nilCheck_ptr, C.add_mk, C.sub_mk, C.mul_mk, C.eql_mk, C.neq_mk, C.lss_mk, C.leq_mk, C.gtr_mk, C.geq_mk, C.conv_mk, C.len_mk, C.ext_0, C.ext_1, C.ext3_0, C.ext3_1, C.ext3_2, C.guarded_yes, C.guarded_tf, C.guarded_ft, C.guarded_undef, Bool.not_true, Bool.not_false, Nat.zero_add, eq_self, decide_true, decide_false]
    refine ROpen_c (hl.keep f3) hr fun c' m' fs yv w4 hc' hf4 hM4 => ?_
    have hcd : Cd l 0 m := .inr (.inr ⟨rfl, hO.few, hO.spl, hO.fine⟩)
    obtain ⟨rfl, rfl⟩ := hcd.det hc'
    have f4 := f3.trans hf4
    simp only [C.ite_true, C.ite_false, C.pick_true, C.pick_false, C.not_bool, C.field_ptr, C.nilCheck_ptr, C.add_mk, C.sub_mk, C.mul_mk, C.eql_mk, C.neq_mk, C.lss_mk, C.leq_mk, C.gtr_mk, C.geq_mk, C.conv_mk, C.len_mk, C.ext_0, C.ext_1, C.ext3_0, C.ext3_1, C.ext3_2, C.guarded_yes, C.guarded_tf, C.guarded_ft, C.guarded_undef, Bool.not_true, Bool.not_false, Nat.zero_add, eq_self, decide_true, decide_false]
    refine Fine_c hM4 (hrv.keep f4) hrr fun w5 hf5 => ?_
    rw [all_fine.2 hO.fr]
    simp only [C.ite_true, C.ite_false, C.pick_true, C.pick_false, C.not_bool, C.field_ptr, C.nilCheck_ptr, C.add_mk, C.sub_mk, C.mul_mk, C.eql_mk, C.neq_mk, C.lss_mk, C.leq_mk, C.gtr_mk, C.geq_mk, C.conv_mk, C.len_mk, C.ext_0, C.ext_1, C.ext3_0, C.ext3_1, C.ext3_2, C.guarded_yes, C.guarded_tf, C.guarded_ft, C.guarded_undef, Bool.not_true, Bool.not_false, Nat.zero_add, eq_self, decide_true, decide_false]
    have f5 := f4.trans hf5
    refine F7.k9.to ?_
    simp only [C.ite_true, C.ite_false, C.pick_true, C.pick_false, C.not_bool, C.field_ptr, C.nilCheck_ptr, C.add_mk, C.sub_mk, C.mul_mk, C.eql_mk, C.neq_mk, C.lss_mk, C.leq_mk, C.gtr_mk, C.geq_mk, C.conv_mk, C.len_mk, C.ext_0, C.ext_1, C.ext3_0, C.ext3_1, C.ext3_2, C.guarded_yes, C.guarded_tf, C.guarded_ft, C.guarded_undef, Bool.not_true, Bool.not_false, Nat.zero_add, eq_self, decide_true, decide_false, ne_eq, not_true_eq_false]
    refine F7.k11.to (places_c (hM4.keep hf5) hro hO.fine (by omega) (hrv.keep f5) hrr hO.fr fun ov w6 hf6 ho6 => ?_)
    have f6 := f5.trans hf6
    have M6 := (hM4.keep hf5).keep hf6
    refine Lay_c M6 hO.slide hr hrr (by omega) ho6.rd (hrv.keep f6) fun tv2 hv2 w7 hf7 ht7 hh7 => ?_
    have f7 := f6.trans hf7
    have f27 := hf3.trans (hf4.trans (hf5.trans (hf6.trans hf7)))
    have f37 := hf4.trans (hf5.trans (hf6.trans hf7))
    simp only [C.ite_true, C.ite_false, C.pick_true, C.pick_false, C.not_bool, C.field_ptr, C.nilCheck_ptr, C.add_mk, C.sub_mk, C.mul_mk, C.eql_mk, C.neq_mk, C.lss_mk, C.leq_mk, C.gtr_mk, C.geq_mk, C.conv_mk, C.len_mk, C.ext_0, C.ext_1, C.ext3_0, C.ext3_1, C.ext3_2, C.guarded_yes, C.guarded_tf, C.guarded_ft, C.guarded_undef, Bool.not_true, Bool.not_false, Nat.zero_add, eq_self, decide_true, decide_false, ne_eq, not_true_eq_false]
    refine WordsEq_c (ht.rd.keep f27) ht7.rd fun w8 hf8 => ?_
    rw [decide_eq_true rfl]
    simp only [C.ite_true, C.ite_false, C.pick_true, C.pick_false, C.not_bool, C.field_ptr, C.nilCheck_ptr, C.add_mk, C.sub_mk, C.mul_mk, C.eql_mk, C.neq_mk, C.lss_mk, C.leq_mk, C.gtr_mk, C.geq_mk, C.conv_mk, C.len_mk, C.ext_0, C.ext_1, C.ext3_0, C.ext3_1, C.ext3_2, C.guarded_yes, C.guarded_tf, C.guarded_ft, C.guarded_undef, Bool.not_true, Bool.not_false, Nat.zero_add, eq_self, decide_true, decide_false]
    refine WordsEq_c ((hh.rd.keep f27).keep hf8) (hh7.rd.keep hf8) fun w9 hf9 => ?_
    rw [decide_eq_true rfl]
    simp only [C.ite_true, C.ite_false, C.pick_true, C.pick_false, C.not_bool, C.field_ptr, C.nilCheck_ptr, C.add_mk, C.sub_mk, C.mul_mk, C.eql_mk, C.neq_mk, C.lss_mk, C.leq_mk, C.gtr_mk, C.geq_mk, C.conv_mk, C.len_mk, C.ext_0, C.ext_1, C.ext3_0, C.ext3_1, C.ext3_2, C.guarded_yes, C.guarded_tf, C.guarded_ft, C.guarded_undef, Bool.not_true, Bool.not_false, Nat.zero_add, eq_self, decide_true, decide_false]
    have f79 := hf8.trans hf9
    refine C.len_rd ((hm3.rd.keep f37).keep f79) (C.len_rd (ho6.rd.keep (hf7.trans f79)) ?_)
    rw [valC_len, mvL_len, intC_len, natI_len]
    simp only [C.ite_true, C.ite_false, C.pick_true, C.pick_false, C.not_bool, C.field_ptr, C.nilCheck_ptr, C.add_mk, C.sub_mk, C.mul_mk, C.eql_mk, C.neq_mk, C.lss_mk, C.leq_mk, C.gtr_mk, C.geq_mk, C.conv_mk, C.len_mk, C.ext_0, C.ext_1, C.ext3_0, C.ext3_1, C.ext3_2, C.guarded_yes, C.guarded_tf, C.guarded_ft, C.guarded_undef, Bool.not_true, Bool.not_false, Nat.zero_add, eq_self, decide_true, decide_false, ne_eq, not_true_eq_false]
    refine F7.k15.to ?_
    have f9 := f7.trans f79
    exact tells_loop (W0 := w9) (S := slO m roots) hO.spl hO.few hPS (ht.rd.keep (f27.trans f79)) ((hm3.rd.keep f37).keep f79) (M6.keep (hf7.trans f79)) (ho6.rd.keep (hf7.trans f79)) (fun w' hf' => h w' (hf1.trans (f9.trans hf'))) (slO m roots).length 0 w9 (by omega) (Fr.refl _ _)
/-! ### SlideWhole -/
theorem whole_loop {W0 : World} {lv sv : Value} {m : List Ob} (hs : RdS W0 sv 1 (intC (atL m))) (hml : m.length ≤ 2048) (hat : ∀ o ∈ m, o.at_ < 2048)
    (h : ∀ v w', Fr [] W0 w' → OwnS w' v 2 1 (intC (allR m)) → F8.k10 K lv v w') :
    ∀ (d j : Nat) (w : World) (v : Value), m.length = j + d → Fr [] W0 w → NewS W0 v → OwnS w v 2 1 (intC (allR (m.take j))) → F8.l7 K lv v sv (.int .i64 (j : Int)) w := by
  intro d
  induction d with
  | zero =>
    intro j w v hj hf hn ho
    refine F8.l7.to (C.len_rd (hs.keep hf) ?_)
    rw [intC_len, atL_len]
    simp only [C.ite_true, C.ite_false, C.pick_true, C.pick_false, C.not_bool, C.field_ptr, C.nilCheck_ptr, C.add_mk, C.sub_mk, C.mul_mk, C.eql_mk, C.neq_mk, C.lss_mk, C.leq_mk, C.gtr_mk, C.geq_mk, C.conv_mk, C.len_mk, C.ext_0, C.ext_1, C.ext3_0, C.ext3_1, C.ext3_2, C.guarded_yes, C.guarded_tf, C.guarded_ft, C.guarded_undef, Bool.not_true, Bool.not_false, Nat.zero_add, eq_self, decide_true, decide_false, show ¬ ((j : Int) < (m.length : Int)) by omega]
    rw [List.take_of_length_le (by omega)] at ho
    exact h v w hf ho
  | succ d ih =>
    intro j w v hj hf hn ho
    have jl : j < m.length := by omega
    have jl' : j < (atL m).length := by rw [atL_len]; exact jl
    have ha := hat _ (List.getElem_mem jl)
    refine F8.l7.to (C.len_rd (hs.keep hf) ?_)
    rw [intC_len, atL_len]
    simp only [C.ite_true, C.ite_false, C.pick_true, C.pick_false, C.not_bool, C.field_ptr, C.nilCheck_ptr, C.add_mk, C.sub_mk, C.mul_mk, C.eql_mk, C.neq_mk, C.lss_mk, C.leq_mk, C.gtr_mk, C.geq_mk, C.conv_mk, C.len_mk, C.ext_0, C.ext_1, C.ext3_0, C.ext3_1, C.ext3_2, C.guarded_yes, C.guarded_tf, C.guarded_ft, C.guarded_undef, Bool.not_true, Bool.not_false, Nat.zero_add, eq_self, decide_true, decide_false, show ((j : Int) < (m.length : Int)) by omega]
    refine F8.k9.to (C.idx_int (hs.keep hf) jl' fun g o cs e fz hg hv => C.load1_of hg hv ?_)
    rw [atL_get jl jl']
    simp only [C.ite_true, C.ite_false, C.pick_true, C.pick_false, C.not_bool, C.field_ptr, C.nilCheck_ptr, C.add_mk, C.sub_mk, C.mul_mk, C.eql_mk, C.neq_mk, C.lss_mk, C.leq_mk, C.gtr_mk, C.geq_mk, C.conv_mk, C.len_mk, C.ext_0, C.ext_1, C.ext3_0, C.ext3_1, C.ext3_2, C.guarded_yes, C.guarded_tf, C.guarded_ft, C.guarded_undef, Bool.not_true, Bool.not_false, Nat.zero_add, eq_self, decide_true, decide_false]
    rw [wrap64_id (n := 2 * (m[j].at_ : Int)) (by omega), wrap64_id (n := 2 * (m[j].at_ : Int) + 2) (by omega)]
    refine C.appW hf hn ho (by simp [allR]; omega) fun v' w1 hf1 hn1 ho1 _ _ => ?_
    refine F8.k8.to ?_
    simp only [C.ite_true, C.ite_false, C.pick_true, C.pick_false, C.not_bool, C.field_ptr, C.nilCheck_ptr, C.add_mk, C.sub_mk, C.mul_mk, C.eql_mk, C.neq_mk, C.lss_mk, C.leq_mk, C.gtr_mk, C.geq_mk, C.conv_mk, C.len_mk, C.ext_0, C.ext_1, C.ext3_0, C.ext3_1, C.ext3_2, C.guarded_yes, C.guarded_tf, C.guarded_ft, C.guarded_undef, Bool.not_true, Bool.not_false, Nat.zero_add, eq_self, decide_true, decide_false]
    rw [wrap64_id (n := (j : Int) + 1) (by omega), show (j : Int) + 1 = ((j + 1 : Nat) : Int) by omega]
    refine ih (j + 1) w1 v' (by omega) hf1 hn1 ?_
    rw [List.take_succ_eq_append_getElem jl, show allR (m.take j ++ [m[j]]) = allR (m.take j) ++ [2 * (m[j].at_ : Int) + 2] by simp only [allR, List.map_append, List.map_cons, List.map_nil]]
    exact ho1
theorem SlideWhole_c {lv : Value} {l : List Int} (hl : RdS w lv 1 (intC l)) (hr : Rng l) (h : ∀ w', Fr [] w w' → K (.bool true) w') : C.call Try.prog 8 #[lv] w K := by
  refine F8.sh (alive38_c fun w1 hf1 => ?_)
  simp only [C.ite_true, C.ite_false, C.pick_true, C.pick_false, C.not_bool, C.field_ptr, C.nilCheck_ptr, C.add_mk, C.sub_mk, C.mul_mk, C.eql_mk, C.neq_mk, C.lss_mk, C.leq_mk, C.gtr_mk, C.geq_mk, C.conv_mk, C.len_mk, C.ext_0, C.ext_1, C.ext3_0, C.ext3_1, C.ext3_2, C.guarded_yes, C.guarded_tf, C.guarded_ft, C.guarded_undef, Bool.not_true, Bool.not_false, Nat.zero_add, eq_self, decide_true, decide_false]
  have z0 : ((0 : Nat) : Int) = 0 := rfl
  refine F8.k3.to (few38_c (hl.keep hf1) hr fun lv l hl hr hlen => ?_)
  refine Objects_c hl hr fun c m sv w2 hc hf2 hs2 => ?_
  have hm2 : m.length ≤ 2048 ∧ ∀ o ∈ m, o.at_ < 2048 := by
    rcases hc with ⟨_, _, rfl⟩ | ⟨_, _, rfl, _⟩ | ⟨_, a, b, _⟩
    · simp
    · simp
    · refine ⟨by have := b.len; omega, fun o ho => ?_⟩
      obtain ⟨i, hi, rfl⟩ := List.getElem_of_mem ho
      have := (b.get i hi).1.end_
      omega
  have hrR : Rng (allR m) := fun x hx => by
    obtain ⟨o, ho, rfl⟩ := List.mem_map.1 hx
    have := hm2.2 o ho
    omega
  refine whole_loop (W0 := w2) hs2 hm2.1 hm2.2 (fun v w3 hf3 ho3 => ?_) m.length 0 w2 (.slice none 0 0) (by omega) (Fr.refl _ _) (NewS.nil _) (OwnS.nil _ _ _)
  have f3 := hf2.trans hf3
  refine F8.k10.to (Slide_c (hl.keep f3) hr ho3.rd hrR (by simp [allR]; omega) (fun c' m' w4 hc' c0 hf4 => ?_) fun m' tv hv w4 hc' hf4 ht hh _ _ => ?_)
  · have ec : c' = c := by
      rcases hc' with ⟨a, b⟩ | ⟨rfl, a, b⟩ | ⟨rfl, _⟩
      · exact (a.det hc).1
      · obtain ⟨rfl, rfl⟩ := a.det hc
        obtain ⟨e1, e2, e3⟩ := a.zero
        exact absurd (allR_fine e2 e1) b
      · exact absurd rfl c0
    subst ec
    have f4 := f3.trans hf4
    simp only [C.ite_true, C.ite_false, C.pick_true, C.pick_false, C.not_bool, C.field_ptr, C.nilCheck_ptr, C.add_mk, C.sub_mk, C.mul_mk, C.eql_mk, C.neq_mk, C.lss_mk, C.leq_mk, C.gtr_mk, C.geq_mk, C.conv_mk, C.len_mk, C.ext_0, C.ext_1, C.ext3_0, C.ext3_1, C.ext3_2, C.guarded_yes, C.guarded_tf, C.guarded_ft, C.guarded_undef, Bool.not_true, Bool.not_false, Nat.zero_add, eq_self, decide_true, decide_false]
    refine ECheck_c (hl.keep f4) hr fun c m'' w5 hc5 hf5 => ?_
    obtain ⟨rfl, _⟩ := hc.det hc5
    have f5 := f4.trans hf5
    simp only [C.ite_true, C.ite_false, C.pick_true, C.pick_false, C.not_bool, C.field_ptr, C.nilCheck_ptr, C.add_mk, C.sub_mk, C.mul_mk, C.eql_mk, C.neq_mk, C.lss_mk, C.leq_mk, C.gtr_mk, C.geq_mk, C.conv_mk, C.len_mk, C.ext_0, C.ext_1, C.ext3_0, C.ext3_1, C.ext3_2, C.guarded_yes, C.guarded_tf, C.guarded_ft, C.guarded_undef, Bool.not_true, Bool.not_false, Nat.zero_add, eq_self, decide_true, decide_false, ne_eq, c0, not_false_eq_true]
    refine ECheck_c (hl.keep f5) hr fun c m'' w6 hc6 hf6 => ?_
    obtain ⟨rfl, _⟩ := hc.det hc6
    simp only [C.ite_true, C.ite_false, C.pick_true, C.pick_false, C.not_bool, C.field_ptr, C.nilCheck_ptr, C.add_mk, C.sub_mk, C.mul_mk, C.eql_mk, C.neq_mk, C.lss_mk, C.leq_mk, C.gtr_mk, C.geq_mk, C.conv_mk, C.len_mk, C.ext_0, C.ext_1, C.ext3_0, C.ext3_1, C.ext3_2, C.guarded_yes, C.guarded_tf, C.guarded_ft, C.guarded_undef, Bool.not_true, Bool.not_false, Nat.zero_add, eq_self, decide_true, decide_false, z0]
    exact h w6 (hf1.trans (f5.trans hf6))
  · have hO := hc'.opn
    have hcd : Cd l 0 m' := .inr (.inr ⟨rfl, hO.few, hO.spl, hO.fine⟩)
    obtain ⟨rfl, rfl⟩ := hcd.det hc
    have f4 := f3.trans hf4
    simp only [C.ite_true, C.ite_false, C.pick_true, C.pick_false, C.not_bool, C.field_ptr, C.nilCheck_ptr, C.add_mk, C.sub_mk, C.mul_mk, C.eql_mk, C.neq_mk, C.lss_mk, C.leq_mk, C.gtr_mk, C.geq_mk, C.conv_mk, C.len_mk, C.ext_0, C.ext_1, C.ext3_0, C.ext3_1, C.ext3_2, C.guarded_yes, C.guarded_tf, C.guarded_ft, C.guarded_undef, Bool.not_true, Bool.not_false, Nat.zero_add, eq_self, decide_true, decide_false]
    refine ECheck_c (hl.keep f4) hr fun c m'' w5 hc5 hf5 => ?_
    obtain ⟨rfl, _⟩ := hcd.det hc5
    have f5 := f4.trans hf5
    simp only [C.ite_true, C.ite_false, C.pick_true, C.pick_false, C.not_bool, C.field_ptr, C.nilCheck_ptr, C.add_mk, C.sub_mk, C.mul_mk, C.eql_mk, C.neq_mk, C.lss_mk, C.leq_mk, C.gtr_mk, C.geq_mk, C.conv_mk, C.len_mk, C.ext_0, C.ext_1, C.ext3_0, C.ext3_1, C.ext3_2, C.guarded_yes, C.guarded_tf, C.guarded_ft, C.guarded_undef, Bool.not_true, Bool.not_false, Nat.zero_add, eq_self, decide_true, decide_false, ne_eq, not_true_eq_false]
    refine F8.k13.to ?_
    rw [allR_slO hO.spl hO.few] at ht hh
    rw [lay_range hO.spl hO.fine] at ht
    have eh : (allR m').map (movW m' (List.range m'.length)) = allR m' := by
      conv => rhs; rw [← List.map_id (allR m')]
      exact List.map_congr_left fun x hx => mov_range hO.spl (hO.fr x hx)
    rw [eh] at hh
    simp only [C.ite_true, C.ite_false, C.pick_true, C.pick_false, C.not_bool, C.field_ptr, C.nilCheck_ptr, C.add_mk, C.sub_mk, C.mul_mk, C.eql_mk, C.neq_mk, C.lss_mk, C.leq_mk, C.gtr_mk, C.geq_mk, C.conv_mk, C.len_mk, C.ext_0, C.ext_1, C.ext3_0, C.ext3_1, C.ext3_2, C.guarded_yes, C.guarded_tf, C.guarded_ft, C.guarded_undef, Bool.not_true, Bool.not_false, Nat.zero_add, eq_self, decide_true, decide_false]
    refine WordsEq_c (ht.rd.keep hf5) (hl.keep f5) fun w6 hf6 => ?_
    rw [decide_eq_true rfl]
    simp only [C.ite_true, C.ite_false, C.pick_true, C.pick_false, C.not_bool, C.field_ptr, C.nilCheck_ptr, C.add_mk, C.sub_mk, C.mul_mk, C.eql_mk, C.neq_mk, C.lss_mk, C.leq_mk, C.gtr_mk, C.geq_mk, C.conv_mk, C.len_mk, C.ext_0, C.ext_1, C.ext3_0, C.ext3_1, C.ext3_2, C.guarded_yes, C.guarded_tf, C.guarded_ft, C.guarded_undef, Bool.not_true, Bool.not_false, Nat.zero_add, eq_self, decide_true, decide_false]
    refine WordsEq_c ((hh.rd.keep hf5).keep hf6) (ho3.rd.keep (hf4.trans (hf5.trans hf6))) fun w7 hf7 => ?_
    rw [decide_eq_true rfl]
    try simp only [C.ite_true, C.ite_false, C.pick_true, C.pick_false, C.not_bool, C.field_ptr, C.nilCheck_ptr, C.add_mk, C.sub_mk, C.mul_mk, C.eql_mk, C.neq_mk, C.lss_mk, C.leq_mk, C.gtr_mk, C.geq_mk, C.conv_mk, C.len_mk, C.ext_0, C.ext_1, C.ext3_0, C.ext3_1, C.ext3_2, C.guarded_yes, C.guarded_tf, C.guarded_ft, C.guarded_undef, Bool.not_true, Bool.not_false, Nat.zero_add, eq_self, decide_true, decide_false]
    exact h w7 (hf1.trans (f5.trans (hf6.trans hf7)))
end
end Go.Proofs.YtfjilngljnlkjaaV
