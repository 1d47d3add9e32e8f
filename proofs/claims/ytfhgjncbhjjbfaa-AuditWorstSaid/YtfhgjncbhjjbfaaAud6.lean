/- At most so many steps; lists of bools compared; the most of the collector's in a window: what the calls come to. -/
import Derived.Test.YtfhgjncbhjjbfaaAud5
import Derived.Test.YtfhgjncbhjjbfaaSl
namespace Go.Proofs.YtfhgjncbhjjbfaaV
open Go Go.Proofs Go.RowKit
set_option linter.unusedVariables false
set_option linter.unusedSimpArgs false
set_option maxRecDepth 10000
/-- How many of the collector's are ahead of a place. -/
def cntB (l : List Bool) : Nat → Int
  | 0 => 0
  | m + 1 => cntB l m + if l[m]? = some true then 1 else 0
theorem cntB_bd (l : List Bool) : ∀ m, 0 ≤ cntB l m ∧ cntB l m ≤ m
  | 0 => by simp [cntB]
  | m + 1 => by
    have := cntB_bd l m
    simp only [cntB]
    split <;> omega
theorem cntB_mono (l : List Bool) : ∀ (d m : Nat), cntB l m ≤ cntB l (m + d)
  | 0, m => by simp
  | d + 1, m => by
    have := cntB_mono l d m
    rw [← Nat.add_assoc]
    simp only [cntB]
    split <;> omega
theorem cntB_le (l : List Bool) {a b : Nat} (h : a ≤ b) : cntB l a ≤ cntB l b := by
  obtain ⟨d, rfl⟩ : ∃ d, b = a + d := ⟨b - a, by omega⟩
  exact cntB_mono l d a
/-- The greatest of the first ones, and 0. -/
def mxI (f : Nat → Int) : Nat → Int
  | 0 => 0
  | m + 1 => max (mxI f m) (f m)
theorem mxI_le {f : Nat → Int} {c : Int} (hc : 0 ≤ c) : ∀ m, (∀ j, j < m → f j ≤ c) → mxI f m ≤ c
  | 0, _ => hc
  | m + 1, h => by
    have := mxI_le hc m fun j hj => h j (by omega)
    have := h m (by omega)
    simp only [mxI]
    omega
theorem mxI_ge {f : Nat → Int} : ∀ m j, j < m → f j ≤ mxI f m
  | m + 1, j, h => by
    by_cases e : j = m
    · subst e; simp only [mxI]; omega
    · have := mxI_ge (f := f) m j (by omega)
      simp only [mxI]; omega
theorem mxI_0 (f : Nat → Int) : ∀ m, 0 ≤ mxI f m
  | 0 => by simp [mxI]
  | m + 1 => by have := mxI_0 f m; simp only [mxI]; omega
/-- The window that ends with a place. -/
def winE (l : List Bool) (N j : Nat) : Int := cntB l (j + 1) - cntB l (j + 1 - N)
/-- The window that begins at a place. -/
def winB (l : List Bool) (N j : Nat) : Int := cntB l (min (j + N) l.length) - cntB l j
def worstI (l : List Bool) (n : Int) : Int := if n < 1 then 0 else mxI (winE l n.toNat) l.length
theorem winE_bd (l : List Bool) (N j : Nat) : 0 ≤ winE l N j ∧ winE l N j ≤ (j : Int) + 1 := by
  have h1 := cntB_le l (show j + 1 - N ≤ j + 1 by omega)
  have h2 := cntB_bd l (j + 1)
  have h3 := cntB_bd l (j + 1 - N)
  unfold winE
  omega
theorem win_same (l : List Bool) (N : Nat) (hN : 1 ≤ N) : mxI (winE l N) l.length = mxI (winB l N) l.length := by
  refine Int.le_antisymm (mxI_le (mxI_0 _ _) _ fun j hj => ?_) (mxI_le (mxI_0 _ _) _ fun j hj => ?_)
  · refine Int.le_trans ?_ (mxI_ge (f := winB l N) l.length (j + 1 - N) (by omega))
    unfold winE winB
    have := cntB_le l (show j + 1 ≤ min (j + 1 - N + N) l.length by omega)
    omega
  · refine Int.le_trans ?_ (mxI_ge (f := winE l N) l.length (min (j + N) l.length - 1) (by omega))
    unfold winE winB
    have := cntB_le l (show min (j + N) l.length - 1 + 1 - N ≤ j by omega)
    rw [show min (j + N) l.length - 1 + 1 = min (j + N) l.length by omega] at *
    omega
theorem winE_succ (l : List Bool) (N i : Nat) (hN : 1 ≤ N) : winE l N i = (cntB l i - cntB l (i - N) + if l[i]? = some true then 1 else 0) - if N ≤ i ∧ l[i - N]? = some true then 1 else 0 := by
  unfold winE
  by_cases h : N ≤ i
  · rw [show i + 1 - N = (i - N) + 1 by omega]
    simp only [cntB, h, true_and]
    omega
  · rw [show i + 1 - N = 0 by omega, show i - N = 0 by omega]
    simp only [cntB, h, false_and, if_false]
    omega
section
variable {K : VK} {w : World}
theorem few_c {W : World} {v : Value} {L : List Stp} (hr : RdS W v 7 (stpC L)) (h : ∀ v', RdS W v' 7 (stpC (L.take 60)) → K v' w) : C.call Try.prog 15 #[v] w K := by
  refine F15.sh (C.len_rd hr ?_)
  rw [stpC_len]
  by_cases h1 : (L.length : Int) > 60
  · simp only [C.ite_true, C.ite_false, C.pick_true, C.pick_false, C.not_bool, C.field_ptr, C.nilCheck_ptr, C.add_mk, C.sub_mk, C.mul_mk, C.eql_mk, C.neq_mk, C.lss_mk, C.leq_mk, C.gtr_mk, C.geq_mk, C.conv_mk, C.len_mk, C.ext_0, C.ext_1, C.ext3_0, C.ext3_1, C.ext3_2, C.guarded_yes, C.guarded_tf, C.guarded_ft, C.guarded_undef, Bool.not_true, Bool.not_false, Nat.zero_add, eq_self, decide_true, decide_false, h1]
    obtain ⟨A, c, rfl, hc⟩ := hr.len_c (P := Try.prog) (K := K)
    rw [stpC_len] at hc
    refine C.run_of (sliceTo_run (e := 27) (sz := 7) A _ c .i64 60 Try.underlying22 (by kernel_rfl) (by omega) (by omega)) (h _ ?_)
    have := hr.take 60 (by rw [stpC_len]; omega)
    have e : stpC (L.take 60) = (stpC L).take 60 := by simp [stpC, List.map_take]
    rw [e]
    exact this
  · simp only [C.ite_true, C.ite_false, C.pick_true, C.pick_false, C.not_bool, C.field_ptr, C.nilCheck_ptr, C.add_mk, C.sub_mk, C.mul_mk, C.eql_mk, C.neq_mk, C.lss_mk, C.leq_mk, C.gtr_mk, C.geq_mk, C.conv_mk, C.len_mk, C.ext_0, C.ext_1, C.ext3_0, C.ext3_1, C.ext3_2, C.guarded_yes, C.guarded_tf, C.guarded_ft, C.guarded_undef, Bool.not_true, Bool.not_false, Nat.zero_add, eq_self, decide_true, decide_false, h1]
    refine F15.k3.to (h _ ?_)
    rw [List.take_of_length_le (by omega)]
    exact hr
theorem bneq (x y : Operand) (a b : Bool) : (do eqGuard .neq 4 x y (.bool a) (.bool b); binOp .neq 4 (.bool a) (.bool b) : Sem Value).run Try.prog w = .ok (.bool (!(a == b))) w := neq_bool x y a b Try.underlying4
theorem bools_loop {a b : Value} {xs ys : List Bool} (ra : RdS w a 1 (boolC xs)) (rb : RdS w b 1 (boolC ys)) (hl : xs.length = ys.length) (h : ∀ w', Fr [] w w' → K (.bool (decide (xs = ys))) w') :
    ∀ (d i : Nat) (w' : World), xs.length = i + d → Fr [] w w' → (∀ j, j < i → xs[j]? = ys[j]?) → F17.l4 K a b (.int .i64 (i : Int)) w' := by
  intro d
  induction d with
  | zero =>
    intro i w' hi hf he
    refine F17.l4.to (C.len_rd (ra.keep hf) ?_)
    rw [boolC_len]
    simp only [C.ite_true, C.ite_false, C.pick_true, C.pick_false, C.not_bool, C.field_ptr, C.nilCheck_ptr, C.add_mk, C.sub_mk, C.mul_mk, C.eql_mk, C.neq_mk, C.lss_mk, C.leq_mk, C.gtr_mk, C.geq_mk, C.conv_mk, C.len_mk, C.ext_0, C.ext_1, C.ext3_0, C.ext3_1, C.ext3_2, C.guarded_yes, C.guarded_tf, C.guarded_ft, C.guarded_undef, Bool.not_true, Bool.not_false, Nat.zero_add, eq_self, decide_true, decide_false, show ¬ ((i : Int) < (xs.length : Int)) by omega]
    refine F17.k8.to ?_
    have e : xs = ys := List.ext_getElem? fun j => by
      by_cases hj : j < i
      · exact he j hj
      · rw [List.getElem?_eq_none (by omega), List.getElem?_eq_none (by omega)]
    have := h w' hf
    rwa [decide_eq_true e] at this
  | succ d ih =>
    intro i w' hi hf he
    have hix : i < xs.length := by omega
    have hiy : i < ys.length := by omega
    have hl2 := ra.le
    rw [boolC_len] at hl2
    refine F17.l4.to (C.len_rd (ra.keep hf) ?_)
    rw [boolC_len]
    simp only [C.ite_true, C.ite_false, C.pick_true, C.pick_false, C.not_bool, C.field_ptr, C.nilCheck_ptr, C.add_mk, C.sub_mk, C.mul_mk, C.eql_mk, C.neq_mk, C.lss_mk, C.leq_mk, C.gtr_mk, C.geq_mk, C.conv_mk, C.len_mk, C.ext_0, C.ext_1, C.ext3_0, C.ext3_1, C.ext3_2, C.guarded_yes, C.guarded_tf, C.guarded_ft, C.guarded_undef, Bool.not_true, Bool.not_false, Nat.zero_add, eq_self, decide_true, decide_false, show ((i : Int) < (xs.length : Int)) by omega]
    refine F17.k6.to (C.draw_of (fun w2 => Fr [] w w2) fun w1 hf1 he1 => ⟨hf.trans hf1, ?_⟩)
    have f1 := hf.trans hf1
    refine C.idx_rdS (S := fun w2 => Fr [] w w2) (fun w2 hw => ra.keep hw) f1 (by omega) (by rw [Int.toNat_natCast]; exact boolC_get hix) fun ga oa _ hs1 => ?_
    refine C.idx_rdS (S := fun w2 => Fr [] w w2) (fun w2 hw => rb.keep hw) f1 (by omega) (by rw [Int.toNat_natCast]; exact boolC_get hiy) fun gb ob _ hs2 => ?_
    refine C.load1S_of (v := .bool xs[i]) (fun w' hw => by obtain ⟨cs, e, fz, x, y⟩ := hs1 w' hw; exact ⟨cs, e, fz, x, by simpa using y 0 (by simp)⟩) ?_
    refine C.load1S_of (v := .bool ys[i]) (fun w' hw => by obtain ⟨cs, e, fz, x, y⟩ := hs2 w' hw; exact ⟨cs, e, fz, x, by simpa using y 0 (by simp)⟩) ?_
    refine ⟨_, fun w' _ => bneq _ _ _ _, ?_⟩
    by_cases hb : xs[i] = ys[i]
    · rw [hb]
      simp only [beq_self_eq_true, C.ite_true, C.ite_false, C.pick_true, C.pick_false, C.not_bool, C.field_ptr, C.nilCheck_ptr, C.add_mk, C.sub_mk, C.mul_mk, C.eql_mk, C.neq_mk, C.lss_mk, C.leq_mk, C.gtr_mk, C.geq_mk, C.conv_mk, C.len_mk, C.ext_0, C.ext_1, C.ext3_0, C.ext3_1, C.ext3_2, C.guarded_yes, C.guarded_tf, C.guarded_ft, C.guarded_undef, Bool.not_true, Bool.not_false, Nat.zero_add, eq_self, decide_true, decide_false]
      refine F17.k5.to ?_
      simp only [C.ite_true, C.ite_false, C.pick_true, C.pick_false, C.not_bool, C.field_ptr, C.nilCheck_ptr, C.add_mk, C.sub_mk, C.mul_mk, C.eql_mk, C.neq_mk, C.lss_mk, C.leq_mk, C.gtr_mk, C.geq_mk, C.conv_mk, C.len_mk, C.ext_0, C.ext_1, C.ext3_0, C.ext3_1, C.ext3_2, C.guarded_yes, C.guarded_tf, C.guarded_ft, C.guarded_undef, Bool.not_true, Bool.not_false, Nat.zero_add, eq_self, decide_true, decide_false]
      rw [wrap64_id (n := (i : Int) + 1) (by omega), show (i : Int) + 1 = ((i + 1 : Nat) : Int) by omega]
      refine ih (i + 1) w1 (by omega) f1 fun j hj => ?_
      by_cases hji : j = i
      · subst hji
        rw [List.getElem?_eq_getElem hix, List.getElem?_eq_getElem hiy, hb]
      · exact he j (by omega)
    · have : (!(xs[i] == ys[i])) = true := by simpa using hb
      rw [this]
      simp only [C.ite_true, C.ite_false, C.pick_true, C.pick_false, C.not_bool, C.field_ptr, C.nilCheck_ptr, C.add_mk, C.sub_mk, C.mul_mk, C.eql_mk, C.neq_mk, C.lss_mk, C.leq_mk, C.gtr_mk, C.geq_mk, C.conv_mk, C.len_mk, C.ext_0, C.ext_1, C.ext3_0, C.ext3_1, C.ext3_2, C.guarded_yes, C.guarded_tf, C.guarded_ft, C.guarded_undef, Bool.not_true, Bool.not_false, Nat.zero_add, eq_self, decide_true, decide_false]
      have ne : ¬ xs = ys := fun e => hb (by subst e; rfl)
      have := h w1 f1
      rwa [decide_eq_false ne] at this
theorem Bools_c {a b : Value} {xs ys : List Bool} (ra : RdS w a 1 (boolC xs)) (rb : RdS w b 1 (boolC ys)) (h : ∀ w', Fr [] w w' → K (.bool (decide (xs = ys))) w') : C.call Try.prog 17 #[a, b] w K := by
  refine F17.sh (C.len_rd ra (C.len_rd rb ?_))
  rw [boolC_len, boolC_len]
  by_cases e : (xs.length : Int) = (ys.length : Int)
  · have : ¬ ((xs.length : Int) ≠ (ys.length : Int)) := fun c => c e
    rw [C.neq_mk, decide_eq_false this, C.ite_false]
    exact F17.k3.to (bools_loop ra rb (by omega) h xs.length 0 w (by omega) (Fr.refl _ _) fun j hj => by omega)
  · rw [C.neq_mk, decide_eq_true (show (xs.length : Int) ≠ (ys.length : Int) from e), C.ite_true]
    have := h w (Fr.refl _ _)
    rwa [decide_eq_false (fun c => e (by rw [c]))] at this
theorem worst_loop {v : Value} {l : List Bool} {n : Int} (hr : RdS w v 1 (boolC l)) (hn : 1 ≤ n) (h : K (.int .i64 (mxI (winE l n.toNat) l.length)) w) :
    ∀ (d i : Nat), l.length = i + d → F21.l5 K v (.int .i64 n) (.int .i64 (cntB l i - cntB l (i - n.toNat))) (.int .i64 (mxI (winE l n.toNat) i)) v (.int .i64 (l.length : Int)) (.int .i64 (i : Int)) w := by
  intro d
  induction d with
  | zero =>
    intro i hi
    refine F21.l5.to ?_
    simp only [C.ite_true, C.ite_false, C.pick_true, C.pick_false, C.not_bool, C.field_ptr, C.nilCheck_ptr, C.add_mk, C.sub_mk, C.mul_mk, C.eql_mk, C.neq_mk, C.lss_mk, C.leq_mk, C.gtr_mk, C.geq_mk, C.conv_mk, C.len_mk, C.ext_0, C.ext_1, C.ext3_0, C.ext3_1, C.ext3_2, C.guarded_yes, C.guarded_tf, C.guarded_ft, C.guarded_undef, Bool.not_true, Bool.not_false, Nat.zero_add, eq_self, decide_true, decide_false, show ¬ ((i : Int) < (l.length : Int)) by omega]
    obtain rfl : i = l.length := by omega
    exact F21.k13.to h
  | succ d ih =>
    intro i hi
    have hil : i < l.length := by omega
    have hl2 := hr.le
    rw [boolC_len] at hl2
    have hs := winE_succ l n.toNat i (by omega)
    have hbd := winE_bd l n.toNat i
    have b1 := cntB_bd l i
    have b2 := cntB_bd l (i - n.toNat)
    have b3 := cntB_le l (show i - n.toNat ≤ i by omega)
    have hc0 : 0 ≤ cntB l i - cntB l (i - n.toNat) ∧ cntB l i - cntB l (i - n.toNat) ≤ i := by omega
    have ih' := ih (i + 1) (by omega)
    rw [show cntB l (i + 1) - cntB l (i + 1 - n.toNat) = winE l n.toNat i from rfl] at ih'
    simp only [mxI] at ih'
    generalize mxI (winE l n.toNat) i = mo at *
    generalize winE l n.toNat i = wi at *
    generalize cntB l i - cntB l (i - n.toNat) = c0 at *
    have fin : F21.k11 K v (.int .i64 n) (.int .i64 wi) (.int .i64 mo) v (.int .i64 (l.length : Int)) (.int .i64 (i : Int)) w := by
      refine F21.k11.to (C.run_of (max2_run _ _ _ _ _) (F21.k12.to ?_))
      simp only [C.ite_true, C.ite_false, C.pick_true, C.pick_false, C.not_bool, C.field_ptr, C.nilCheck_ptr, C.add_mk, C.sub_mk, C.mul_mk, C.eql_mk, C.neq_mk, C.lss_mk, C.leq_mk, C.gtr_mk, C.geq_mk, C.conv_mk, C.len_mk, C.ext_0, C.ext_1, C.ext3_0, C.ext3_1, C.ext3_2, C.guarded_yes, C.guarded_tf, C.guarded_ft, C.guarded_undef, Bool.not_true, Bool.not_false, Nat.zero_add, eq_self, decide_true, decide_false]
      rw [wrap64_id (n := (i : Int) + 1) (by omega), show (i : Int) + 1 = ((i + 1 : Nat) : Int) by omega]
      exact ih'
    have mid : ∀ c1 : Int, wi = c1 - (if n.toNat ≤ i ∧ l[i - n.toNat]? = some true then 1 else 0) → F21.k9 K v (.int .i64 n) (.int .i64 c1) (.int .i64 mo) (.int .i64 (i : Int)) v (.int .i64 (l.length : Int)) (.int .i64 (i : Int)) w := by
      intro c1 hc1
      refine F21.k9.to ?_
      by_cases hge : (i : Int) ≥ n
      · have hge' : n.toNat ≤ i := by omega
        simp only [C.ite_true, C.ite_false, C.pick_true, C.pick_false, C.not_bool, C.field_ptr, C.nilCheck_ptr, C.add_mk, C.sub_mk, C.mul_mk, C.eql_mk, C.neq_mk, C.lss_mk, C.leq_mk, C.gtr_mk, C.geq_mk, C.conv_mk, C.len_mk, C.ext_0, C.ext_1, C.ext3_0, C.ext3_1, C.ext3_2, C.guarded_yes, C.guarded_tf, C.guarded_ft, C.guarded_undef, Bool.not_true, Bool.not_false, Nat.zero_add, eq_self, decide_true, decide_false, hge]
        rw [wrap64_id (n := (i : Int) - n) (by omega), show (i : Int) - n = ((i - n.toNat : Nat) : Int) by omega]
        have hj : i - n.toNat < l.length := by omega
        refine C.idx_rd hr (by omega) (by rw [Int.toNat_natCast]; exact boolC_get hj) fun g o cs e fz hg _ hc => ?_
        refine C.load1_of (v := .bool l[i - n.toNat]) hg (by simpa using hc 0 (by simp)) ?_
        rw [List.getElem?_eq_getElem hj] at hc1
        cases hb : l[i - n.toNat] with
        | true =>
          rw [hb, if_pos ⟨hge', rfl⟩] at hc1
          simp only [C.ite_true, C.ite_false, C.pick_true, C.pick_false, C.not_bool, C.field_ptr, C.nilCheck_ptr, C.add_mk, C.sub_mk, C.mul_mk, C.eql_mk, C.neq_mk, C.lss_mk, C.leq_mk, C.gtr_mk, C.geq_mk, C.conv_mk, C.len_mk, C.ext_0, C.ext_1, C.ext3_0, C.ext3_1, C.ext3_2, C.guarded_yes, C.guarded_tf, C.guarded_ft, C.guarded_undef, Bool.not_true, Bool.not_false, Nat.zero_add, eq_self, decide_true, decide_false]
          rw [wrap64_id (n := c1 - 1) (by omega), ← hc1]
          exact fin
        | false =>
          rw [hb, if_neg (by simp), Int.sub_zero] at hc1
          simp only [C.ite_true, C.ite_false, C.pick_true, C.pick_false, C.not_bool, C.field_ptr, C.nilCheck_ptr, C.add_mk, C.sub_mk, C.mul_mk, C.eql_mk, C.neq_mk, C.lss_mk, C.leq_mk, C.gtr_mk, C.geq_mk, C.conv_mk, C.len_mk, C.ext_0, C.ext_1, C.ext3_0, C.ext3_1, C.ext3_2, C.guarded_yes, C.guarded_tf, C.guarded_ft, C.guarded_undef, Bool.not_true, Bool.not_false, Nat.zero_add, eq_self, decide_true, decide_false]
          rw [← hc1]
          exact fin
      · have hge' : ¬ n.toNat ≤ i := by omega
        rw [if_neg (fun c => hge' c.1), Int.sub_zero] at hc1
        simp only [C.ite_true, C.ite_false, C.pick_true, C.pick_false, C.not_bool, C.field_ptr, C.nilCheck_ptr, C.add_mk, C.sub_mk, C.mul_mk, C.eql_mk, C.neq_mk, C.lss_mk, C.leq_mk, C.gtr_mk, C.geq_mk, C.conv_mk, C.len_mk, C.ext_0, C.ext_1, C.ext3_0, C.ext3_1, C.ext3_2, C.guarded_yes, C.guarded_tf, C.guarded_ft, C.guarded_undef, Bool.not_true, Bool.not_false, Nat.zero_add, eq_self, decide_true, decide_false, hge]
        rw [← hc1]
        exact fin
    refine F21.l5.to ?_
    simp only [C.ite_true, C.ite_false, C.pick_true, C.pick_false, C.not_bool, C.field_ptr, C.nilCheck_ptr, C.add_mk, C.sub_mk, C.mul_mk, C.eql_mk, C.neq_mk, C.lss_mk, C.leq_mk, C.gtr_mk, C.geq_mk, C.conv_mk, C.len_mk, C.ext_0, C.ext_1, C.ext3_0, C.ext3_1, C.ext3_2, C.guarded_yes, C.guarded_tf, C.guarded_ft, C.guarded_undef, Bool.not_true, Bool.not_false, Nat.zero_add, eq_self, decide_true, decide_false, show ((i : Int) < (l.length : Int)) by omega]
    refine F21.k6.to (C.idx_rd hr (by omega) (by rw [Int.toNat_natCast]; exact boolC_get hil) fun g o cs e fz hg _ hc => ?_)
    refine C.load1_of (v := .bool l[i]) hg (by simpa using hc 0 (by simp)) ?_
    rw [List.getElem?_eq_getElem hil] at hs
    cases hb : l[i] with
    | true =>
      rw [hb, if_pos rfl] at hs
      simp only [C.ite_true, C.ite_false, C.pick_true, C.pick_false, C.not_bool, C.field_ptr, C.nilCheck_ptr, C.add_mk, C.sub_mk, C.mul_mk, C.eql_mk, C.neq_mk, C.lss_mk, C.leq_mk, C.gtr_mk, C.geq_mk, C.conv_mk, C.len_mk, C.ext_0, C.ext_1, C.ext3_0, C.ext3_1, C.ext3_2, C.guarded_yes, C.guarded_tf, C.guarded_ft, C.guarded_undef, Bool.not_true, Bool.not_false, Nat.zero_add, eq_self, decide_true, decide_false]
      rw [wrap64_id (n := c0 + 1) (by omega)]
      exact mid (c0 + 1) hs
    | false =>
      rw [hb, if_neg (by simp), Int.add_zero] at hs
      simp only [C.ite_true, C.ite_false, C.pick_true, C.pick_false, C.not_bool, C.field_ptr, C.nilCheck_ptr, C.add_mk, C.sub_mk, C.mul_mk, C.eql_mk, C.neq_mk, C.lss_mk, C.leq_mk, C.gtr_mk, C.geq_mk, C.conv_mk, C.len_mk, C.ext_0, C.ext_1, C.ext3_0, C.ext3_1, C.ext3_2, C.guarded_yes, C.guarded_tf, C.guarded_ft, C.guarded_undef, Bool.not_true, Bool.not_false, Nat.zero_add, eq_self, decide_true, decide_false]
      exact mid c0 hs
theorem Worst_c {v : Value} {l : List Bool} {n : Int} (hr : RdS w v 1 (boolC l)) (h : K (.int .i64 (worstI l n)) w) : C.call Try.prog 21 #[v, .int .i64 n] w K := by
  refine F21.sh ?_
  unfold worstI at h
  by_cases hn : n < 1
  · rw [if_pos hn] at h
    simp only [C.ite_true, C.ite_false, C.pick_true, C.pick_false, C.not_bool, C.field_ptr, C.nilCheck_ptr, C.add_mk, C.sub_mk, C.mul_mk, C.eql_mk, C.neq_mk, C.lss_mk, C.leq_mk, C.gtr_mk, C.geq_mk, C.conv_mk, C.len_mk, C.ext_0, C.ext_1, C.ext3_0, C.ext3_1, C.ext3_2, C.guarded_yes, C.guarded_tf, C.guarded_ft, C.guarded_undef, Bool.not_true, Bool.not_false, Nat.zero_add, eq_self, decide_true, decide_false, hn]
    exact h
  · rw [if_neg hn] at h
    simp only [C.ite_true, C.ite_false, C.pick_true, C.pick_false, C.not_bool, C.field_ptr, C.nilCheck_ptr, C.add_mk, C.sub_mk, C.mul_mk, C.eql_mk, C.neq_mk, C.lss_mk, C.leq_mk, C.gtr_mk, C.geq_mk, C.conv_mk, C.len_mk, C.ext_0, C.ext_1, C.ext3_0, C.ext3_1, C.ext3_2, C.guarded_yes, C.guarded_tf, C.guarded_ft, C.guarded_undef, Bool.not_true, Bool.not_false, Nat.zero_add, eq_self, decide_true, decide_false, hn]
    refine F21.k3.to (C.len_rd hr ?_)
    rw [boolC_len]
    have := worst_loop hr (by omega) h l.length 0 (by omega)
    rw [Nat.zero_sub] at this
    exact this
end
end Go.Proofs.YtfhgjncbhjjbfaaV
